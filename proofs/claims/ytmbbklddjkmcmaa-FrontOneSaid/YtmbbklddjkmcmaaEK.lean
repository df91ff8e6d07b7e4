/- front: FrontOne. -/
import Derived.Test.YtmbbklddjkmcmaaEF
import Derived.Test.YtmbbklddjkmcmaaK4
namespace Go.Proofs.Ytmbbklddjkmcmaa
set_option linter.unusedSimpArgs false
set_option linter.unusedVariables false
open Go Go.Fw Go.Dm

theorem av_ne {E : Nat → Nat → Prop} {c b : Nat} (h : Av E c b) : b ≠ c := by
  cases h with
  | zero h => exact Ne.symm h
  | step _ _ h => exact h
theorem av_last {E : Nat → Nat → Prop} {c b : Nat} (h : Av E c b) (h0 : b ≠ 0) : ∃ q, Av E c q ∧ E q b := by
  cases h with
  | zero h => exact absurd rfl h0
  | step h1 h2 _ => exact ⟨_, h1, h2⟩
theorem rch_first {E : Nat → Nat → Prop} {c : Nat} (hc0 : c ≠ 0) (h : Rch E c) : ∃ q, Av E c q ∧ E q c := by
  have key : ∀ x, Rch E x → Av E c x ∨ ∃ q, Av E c q ∧ E q c := fun x hx => by
    induction hx with
    | zero => exact .inl (.zero hc0)
    | @step a b h1 h2 ih =>
      rcases ih with h3 | h3
      · by_cases hb : b = c
        · exact .inr ⟨a, h3, by rw [← hb]; exact h2⟩
        · exact .inl (.step h3 h2 hb)
      · exact .inr h3
  rcases key c h with h1 | h1
  · exact absurd rfl (av_ne h1)
  · exact h1
/-- To a block in some frontier one comes from two. -/
theorem fr_two {E : Nat → Nat → Prop} {b c : Nat} (h : FrG E b c) (hc0 : c ≠ 0) : ∃ p q, p ≠ q ∧ Rch E p ∧ E p c ∧ Rch E q ∧ E q c := by
  obtain ⟨⟨p, h1, h2, h3⟩, h4⟩ := h
  have : ∃ q, Av E b q ∧ E q c := by
    rcases h4 with rfl | h4
    · exact rch_first hc0 (.step h2 h1)
    · exact av_last h4 hc0
  obtain ⟨q, h5, h6⟩ := this
  exact ⟨p, q, fun h => h3 (by rw [h]; exact h5), h2, h1, h5.rch, h6⟩

section
variable {g : List RowV} {L : List Int} {bs : List Nat} {ls : List Int}

/-- A block is marked: 0, those of the set, those of its Placed. -/
def Mkd (g : List RowV) (ls : List Int) (b : Nat) : Prop := b = 0 ∨ (b : Int) ∈ ls ∨ Pl (FrG (Edge g)) (fun b => (b : Int) ∈ ls) b

/-- The marked block that was left last, by the tree. -/
inductive Lst (g : List RowV) (L : List Int) (ls : List Int) : Nat → Nat → Prop
  | here {b : Nat} : Mkd g ls b → Lst g L ls b b
  | up {b d m : Nat} : ¬ Mkd g ls b → nxOf L b = some d → Lst g L ls d m → Lst g L ls b m

theorem Lst.uniq {b m m' : Nat} (h : Lst g L ls b m) (h' : Lst g L ls b m') : m = m' := by
  induction h with
  | here h1 =>
    cases h' with
    | here _ => rfl
    | up h2 _ _ => exact absurd h1 h2
  | up h1 h2 _ ih =>
    cases h' with
    | here h3 => exact absurd h3 h1
    | up _ h4 h5 =>
      rw [h2] at h4; cases h4
      exact ih h5

theorem lst_same {b e m : Nat} (hu : Up (nxOf L) e b) (hno : ∀ d, Up (nxOf L) d b → Up (nxOf L) e d → d ≠ e → ¬ Mkd g ls d) (h : Lst g L ls e m) : Lst g L ls b m := by
  induction hu with
  | refl => exact h
  | @step b d h1 h2 ih =>
    by_cases hbc : b = e
    · rw [hbc]; exact h
    · have hnb : ¬ Mkd g ls b := hno b (.refl _) (.step h1 h2) hbc
      exact .up hnb h1 (ih fun d' q1 q2 q3 => hno d' (.step h1 q1) q2 q3)

/-- What was left last is one and the same. -/
theorem one_same (hT : TreeOk g L bs) {b c e m : Nat} (hb : Rch (Edge g) b) (hE : Edge g b c) (hc : ¬ Pl (FrG (Edge g)) (fun b => (b : Int) ∈ ls) c) (hc0 : c ≠ 0) (hn : nxOf L c = some e) (h : Lst g L ls e m) : Lst g L ls b m := by
  have hcr : Rch (Edge g) c := .step hb hE
  obtain ⟨her, hlt, _⟩ := hT.sol.fit.dn c e hcr hn
  have hec : e ≠ c := fun h => by rw [h] at hlt; omega
  have hec2 : ¬ Av (Edge g) e c := (hT.sol.dom c e hcr).1 (.step hn (.refl _))
  have hub : Up (nxOf L) e b := (hT.sol.dom b e hb).2 fun hav => hec2 (.step hav hE (Ne.symm hec))
  refine lst_same hub (fun d h1 h2 h3 hm => ?_) h
  have hd : ¬ Av (Edge g) d b := (hT.sol.dom b d hb).1 h1
  have hF : FrG (Edge g) d c := by
    refine ⟨⟨b, hE, hb, hd⟩, ?_⟩
    by_cases hdc : d = c
    · exact .inl hdc
    · right
      refine Classical.byContradiction fun hav => ?_
      have hu := (hT.sol.dom c d hcr).2 hav
      cases hu with
      | refl => exact hdc rfl
      | step h4 h5 =>
        rw [hn] at h4; cases h4
        have q1 := h5.lt hT.sol.fit her h3
        have q2 := h2.lt hT.sol.fit (h1.rch hT.sol.fit hb) (Ne.symm h3)
        omega
  rcases hm with rfl | hm | hm
  · exact h3 (h2.zero hT.sol.fit.z).symm
  · exact hc (.base hm hF)
  · exact hc (.step hm hF)

theorem one_zero (hT : TreeOk g L bs) {b m : Nat} (hb : Rch (Edge g) b) (hE : Edge g b 0) (hc : ¬ Pl (FrG (Edge g)) (fun b => (b : Int) ∈ ls) 0) (h : Lst g L ls b m) : m = 0 := by
  have h0 : Lst g L ls 0 0 := .here (.inl rfl)
  refine h.uniq (lst_same (up_zero hT hb) (fun d h1 h2 h3 hm => ?_) h0)
  have hF : FrG (Edge g) d 0 := ⟨⟨b, hE, hb, (hT.sol.dom b d hb).1 h1⟩, .inr (.zero h3)⟩
  rcases hm with rfl | hm | hm
  · exact h3 rfl
  · exact hc (.base hm hF)
  · exact hc (.step hm hF)
end

end Go.Proofs.Ytmbbklddjkmcmaa

namespace Go.Proofs.Ytmbbklddjkmcmaa
set_option linter.unusedSimpArgs false
set_option linter.unusedVariables false
open Go Go.Fw Go.Dm

section
variable {L : List Int} {bs : List Nat} {x : GraphV} {r : RowV} {vp va vo : AV} {A : Nat → AV} {H : AHeap} {N id n : Nat} {fs : List Fr} {Q : Post} {l lp la : List Int}

theorem one_cmp (hlen : lp.length ≤ 100) (hla : la.length ≤ maxLen) (hp : RdSl H 1 (intCells lp) vp) (ha : RdSl H 1 (intCells la) va) (hin : ∀ v ∈ lp, v ∈ la) (hup : lp.Pairwise (· < ·)) (h9 : A 9 = vp) (h11 : A 11 = va) (h12 : A 12 = i64 0)
    (hk : ∀ A' : Nat → AV, (∀ t ∈ [0, 1, 7, 9], A' t = A t) → onward Try.prog fs Q (.exit 0) ⟨A', H, N⟩) : run Try.prog (.loop a_bobbinlaw13_Oneb5) fs Q ⟨A, H, N⟩ := by
  have hpl := hp.len
  rw [intCells_len] at hpl
  refine run_loop (fun k s => ∃ j, k = lp.length - j ∧ j ≤ lp.length ∧ (∀ t ∈ [0, 1, 7, 9, 11], s.A t = A t) ∧ s.A 12 = i64 j ∧ s.H = H ∧ s.N = N) lp.length ?_ ?_
  · exact ⟨0, by omega, by omega, by simp, h12, rfl, rfl⟩
  · rintro k A1 H1 N1 ⟨j, hk', hj, hA, e12, hH, hN⟩
    simp only at hA e12 hH hN
    subst hH; subst hN
    have hA' := hA
    simp at hA'
    obtain ⟨g0, g1, g7, g9, g11⟩ := hA'
    rw [h9] at g9
    rw [h11] at g11
    by_cases hjl : j = lp.length
    · subst hjl
      simp [a_bobbinlaw13_Oneb5, g9, e12, hpl, -alen]
      exact hk _ (by simp [g0, g1, g7, g9, h9])
    · have hlt : j < lp.length := by omega
      obtain ⟨p, hpp, pp⟩ := hp.at (intCells_sz lp) (intCells_at hlt)
      have lq := pp.one
      have wr : IntKind.i64.wrap ((j : Int) + 1) = ((j + 1 : Nat) : Int) := by rw [wrap_i64 (by omega) (by omega)]; rfl
      have hmem := hin _ (List.getElem_mem hlt)
      simp [a_bobbinlaw13_Oneb5, g9, g11, e12, hpl, hlt, hpp, lq, -alen, -aload]
      refine (p_lHas ha hla lp[j] N1).mono ?_
      rintro r' H2 N2 ⟨rfl, hH2, hN2⟩
      rw [hH2, hN2]
      by_cases hz : 0 < j
      · obtain ⟨m, hm⟩ : ∃ m, j = m + 1 := ⟨j - 1, by omega⟩
        have hml : m < lp.length := by omega
        obtain ⟨o, ho, oo⟩ := hp.at (intCells_sz lp) (intCells_at hml)
        have lo := oo.one
        have hmj : lp[m] < lp[j] := List.pairwise_iff_getElem.1 hup m j hml hlt (by omega)
        have wm : IntKind.i64.wrap ((j : Int) - 1) = (m : Int) := by rw [wrap_i64 (by omega) (by omega)]; omega
        simp [hmem, g9, e12, hpp, ho, lq, lo, hz, wr, wm, show ¬ lp[j] ≤ lp[m] by omega, -alen, -aload]
        exact ⟨lp.length - (j + 1), by omega, j + 1, rfl, by omega, by simp [g0, g1, g7, g9, g11, h9, h11], by simp⟩
      · simp [hmem, g9, e12, hz, wr]
        exact ⟨lp.length - (j + 1), by omega, j + 1, rfl, by omega, by simp [g0, g1, g7, g9, g11, h9, h11], by simp⟩

/-- Numbers of n blocks. -/
def outs (n : Nat) (f : Nat → Nat) : List AV := (List.range n).map fun b => i64 (f b)
theorem outs_len {f : Nat → Nat} : (outs n f).length = n := by simp [outs]
theorem outs_at {f : Nat → Nat} {b : Nat} (h : b < n) : (outs n f)[b]? = some (i64 (f b)) := by simp [outs, h]
theorem outs_set {f : Nat → Nat} {b v : Nat} : (outs n f).set b (i64 v) = outs n fun y => if y = b then v else f y := by
  apply List.ext_getElem?
  intro i
  rw [List.getElem?_set]
  by_cases hi : i < n
  · by_cases hx : b = i
    · subst hx
      simp [outs, hi]
    · rw [if_neg hx, outs_at hi, outs_at hi, if_neg (Ne.symm hx)]
  · by_cases hx : b = i
    · subst hx; simp [hi, outs]
    · rw [if_neg hx]; simp [outs, hi]

structure OnO (g : List RowV) (L : List Int) (bs : List Nat) (ls : List Int) (A0 : Nat → AV) (H0 : AHeap) (id : Nat) (k : Nat) (s : St) : Prop where
  ex : ∃ (i : Nat) (f : Nat → Nat), k = (orderL L bs).length - i ∧ i ≤ (orderL L bs).length ∧ (∀ t ∈ [0, 1, 7, 9, 13, 14], s.A t = A0 t) ∧ s.A 15 = i64 i ∧ s.H id = some (.blk (outs g.length f)) ∧ (∀ j, j ≠ id → s.H j = H0 j) ∧ ∀ b ∈ (orderL L bs).take i, Lst g L ls b (f b)

theorem one_out (hT : TreeOk x.g L bs) (hm : mayG x.g = true) (hr : r.Ok) (hp : ∀ H' : AHeap, (∀ j, j ≠ id → H' j = H j) → RdSl H' 1 (intCells (natI (plG x.g r.l))) vp) (ho : ∀ H' : AHeap, (∀ j, j ≠ id → H' j = H j) → RdSl H' 1 (intCells (natI (orderL L bs))) vo) (hn : x.g.length ≤ 60)
    (hid : H id = some (.blk (outs x.g.length fun _ => 0)))
    (h1 : A 1 = r.av) (h7 : A 7 = treeV x.g.length L bs) (h9 : A 9 = vp) (h13 : A 13 = .ms id 0 x.g.length 1) (h14 : A 14 = vo) (h15 : A 15 = i64 0)
    (hk : ∀ (A' : Nat → AV) (H' : AHeap) (f : Nat → Nat), (∀ t ∈ [0, 1, 7, 9, 13, 14], A' t = A t) → H' id = some (.blk (outs x.g.length f)) → (∀ j, j ≠ id → H' j = H j) → (∀ b, Rch (Edge x.g) b → Lst x.g L r.l b (f b)) → onward Try.prog fs Q (.exit 2) ⟨A', H', N⟩) :
    run Try.prog (.loop a_bobbinlaw13_Oneb4) fs Q ⟨A, H, N⟩ := by
  obtain ⟨hin, h00⟩ := may_in hm
  have hpll : (natI (plG x.g r.l)).length ≤ maxLen := by
    have : (natI (plG x.g r.l)).length ≤ 60 := by
      simp only [natI, List.length_map, plG, hm, if_true]
      exact Nat.le_trans setL_len hn
    unfold maxLen; omega
  have hol : (orderL L bs).length ≤ 60 := by
    have h1 := List.Nodup.length_le_of_subset (l₂ := List.range x.g.length) (order_nodup hT) (fun y hy => List.mem_range.2 (rch_lt hin h00 ((order_mem hT y).1 hy)))
    simp at h1
    omega
  refine run_loop (fun k s => OnO x.g L bs r.l A H id k s ∧ s.N = N) (orderL L bs).length ?_ ?_
  · exact ⟨⟨0, fun _ => 0, by omega, by omega, by simp, h15, hid, fun _ _ => rfl, by simp⟩, rfl⟩
  · rintro k A1 H1 N1 ⟨⟨i, f, hk', hi, hA, e15, hid1, hold, hl⟩, hN⟩
    simp only at hA e15 hid1 hold hN
    subst hN
    have hA' := hA
    simp at hA'
    obtain ⟨g0, g1, g7, g9, g13, g14⟩ := hA'
    rw [h1] at g1
    rw [h7] at g7
    rw [h9] at g9
    rw [h13] at g13
    rw [h14] at g14
    have hvl := (ho H1 hold).len
    rw [intCells_len, natI_len] at hvl
    by_cases hil : i = (orderL L bs).length
    · subst hil
      rw [List.take_length] at hl
      simp [a_bobbinlaw13_Oneb4, g14, e15, hvl, -alen]
      exact hk _ _ f (by simp [g0, g1, g7, g9, g13, g14, h1, h7, h9, h13, h14]) hid1 hold fun b hb => hl b ((order_mem hT b).2 hb)
    · have hlt : i < (orderL L bs).length := by omega
      obtain ⟨b, hb⟩ : ∃ b, (orderL L bs)[i] = b := ⟨_, rfl⟩
      have hbi : (orderL L bs)[i]? = some b := by rw [List.getElem?_eq_getElem hlt, hb]
      have hbr : Rch (Edge x.g) b := (order_mem hT b).1 (by rw [← hb]; exact List.getElem_mem hlt)
      have hbn := rch_lt hin h00 hbr
      have hnot : b ∉ (orderL L bs).take i := by
        have h1 := (order_nodup hT).sublist (List.take_sublist (i + 1) _)
        rw [Go.Fw.take_next hlt, hb, List.nodup_append] at h1
        exact fun h => h1.2.2 b h b (by simp) rfl
      have hbf := order_before hT hbi
      have hni : i < (natI (orderL L bs)).length := by rw [natI_len]; exact hlt
      have hnv : (natI (orderL L bs))[i] = (b : Int) := by simp [natI, hb]
      obtain ⟨q, hq, qq⟩ := (ho H1 hold).at (intCells_sz _) (intCells_at hni)
      have lq := qq.one
      rw [hnv] at lq
      have ixb : aindex 1 (.ms id 0 x.g.length 1) (i64 b) = some (.mp id b) := by simp [aindex, hbn]
      have stb : astore H1 1 (.mp id b) (i64 b) = some (H1.set id (.blk (outs x.g.length fun y => if y = b then b else f y))) := by
        rw [← outs_set]
        simp [astore, hid1, outs_len, show b + 1 ≤ x.g.length by omega]
      have wr : IntKind.i64.wrap ((i : Int) + 1) = ((i + 1 : Nat) : Int) := by rw [wrap_i64 (by omega) (by omega)]; rfl
      have hold2 : ∀ j, j ≠ id → (H1.set id (.blk (outs x.g.length fun y => if y = b then b else f y))) j = H j := fun j hj => by simp [hj]; exact hold j hj
      have fin : ∀ (f' : Nat → Nat) (H2 : AHeap) (A3 : Nat → AV), Lst x.g L r.l b (f' b) → (∀ y, y ≠ b → f' y = f y) → H2 id = some (.blk (outs x.g.length f')) → (∀ j, j ≠ id → H2 j = H j) → (∀ t ∈ [0, 1, 7, 9, 13, 14], A3 t = A t) → A3 15 = i64 ((i + 1 : Nat) : Int) → ∃ m, m < k ∧ OnO x.g L bs r.l A H id m ⟨A3, H2, N1⟩ := fun f' H2 A3 q1 q2 q3 q4 q5 q6 => by
        refine ⟨(orderL L bs).length - (i + 1), by omega, ⟨i + 1, f', rfl, by omega, q5, q6, q3, q4, fun y hy => ?_⟩⟩
        rw [Go.Fw.take_next hlt, hb, List.mem_append, List.mem_singleton] at hy
        rcases hy with hy | rfl
        · rw [q2 y fun h => hnot (by rw [← h]; exact hy)]
          exact hl y hy
        · exact q1
      have hplm : (b : Int) ∈ natI (plG x.g r.l) ↔ Pl (FrG (Edge x.g)) (fun b => (b : Int) ∈ r.l) b := by
        rw [natI_mem]
        simp only [plG, hm, if_true]
        constructor
        · rintro ⟨c, h1, h2⟩
          have : b = c := by omega
          rw [this]; exact (setL_mem.1 h2).2
        · intro h
          exact ⟨b, rfl, setL_mem.2 ⟨hbn, h⟩⟩
      have marked : Mkd x.g r.l b → ∀ A3 : Nat → AV, (∀ t ∈ [0, 1, 7, 9, 13, 14], A3 t = A t) → A3 15 = i64 ((i + 1 : Nat) : Int) → ∃ m, m < k ∧ OnO x.g L bs r.l A H id m ⟨A3, H1.set id (.blk (outs x.g.length fun y => if y = b then b else f y)), N1⟩ := fun hmk A3 q5 q6 =>
        fin (fun y => if y = b then b else f y) _ A3 (by simp; exact .here hmk) (fun y hy => by simp [hy]) (by simp) hold2 q5 q6
      have done6 : ∀ t ∈ [0, 1, 7, 9, 13, 14], A1 t = A t := by simp [g0, g1, g7, g9, g13, g14, h1, h7, h9, h13, h14]
      simp at done6
      obtain ⟨d0, d1, d7, d9, d13, d14⟩ := done6
      by_cases hb0 : b = 0
      · subst hb0
        have ixb0 : aindex 1 (.ms id 0 x.g.length 1) (i64 0) = some (.mp id 0) := ixb
        have stb0 : astore H1 1 (.mp id 0) (i64 0) = some (H1.set id (.blk (outs x.g.length fun y => if y = 0 then 0 else f y))) := stb
        have lq0 : aload H1 false 1 q = some (i64 0) := lq
        simp [a_bobbinlaw13_Oneb4, g13, g14, e15, hvl, hlt, hq, lq0, ixb0, stb0, wr, -alen, -aload, -astore]
        refine marked (.inl rfl) _ ?_ ?_ <;> simp [d0, d1, d7, d9, d13, d14, g1, g7, g9, g13, g14]
      · simp [a_bobbinlaw13_Oneb4, g1, g13, g14, e15, hvl, hlt, hq, lq, ixb, stb, show ¬ (b : Int) = 0 by omega, hb0, wr, -alen, -aload, -astore]
        refine (p_lHas (hr.rd _) hr.hl (b : Int) N1).mono ?_
        rintro r' H2 N2 ⟨rfl, hH2, hN2⟩
        rw [hH2, hN2]
        by_cases hbs : (b : Int) ∈ r.l
        · simp [hbs, e15, wr]
          refine marked (.inr (.inl hbs)) _ ?_ ?_ <;> simp [d0, d1, d7, d9, d13, d14, g1, g7, g9, g13, g14]
        · simp [hbs, g9]
          refine (p_lHas (hp _ hold2) hpll (b : Int) N1).mono ?_
          rintro r' H2 N2 ⟨rfl, hH2, hN2⟩
          rw [hH2, hN2]
          by_cases hbp : (b : Int) ∈ natI (plG x.g r.l)
          · simp [hbp, e15, wr]
            refine marked (.inr (.inr (hplm.1 hbp))) _ ?_ ?_ <;> simp [d0, d1, d7, d9, d13, d14, g1, g7, g9, g13, g14]
          · have hunm : ¬ Mkd x.g r.l b := fun h => by
              rcases h with h | h | h
              · exact hb0 h
              · exact hbs h
              · exact hbp (hplm.2 h)
            obtain ⟨d, hd1, hd2⟩ : ∃ d, nxOf L b = some d ∧ d ∈ (orderL L bs).take i := by
              rcases hbf with ⟨_, h⟩ | ⟨_, d, h2, h3⟩
              · exact absurd h hb0
              · exact ⟨d, h2, h3⟩
            obtain ⟨hdr, hdlt, _⟩ := hT.sol.fit.dn b d hbr hd1
            have hdb : d ≠ b := fun h => by rw [h] at hdlt; omega
            have hdn := rch_lt hin h00 hdr
            have hnx : nxI L bs (b : Int) = (d : Int) := by
              have h1 := nxOf_some hd1
              simp [nxI, rchI_of hT hbr, List.getD, h1]
            have ixd : aindex 1 (.ms id 0 x.g.length 1) (i64 d) = some (.mp id d) := by simp [aindex, hdn]
            have ldd : aload (H1.set id (.blk (outs x.g.length fun y => if y = b then b else f y))) false 1 (.mp id d) = some (i64 (f d)) := by
              simp [aload, apart, outs_at hdn, hdb]
            have std : astore (H1.set id (.blk (outs x.g.length fun y => if y = b then b else f y))) 1 (.mp id b) (i64 (f d)) = some (H1.set id (.blk (outs x.g.length fun z => if z = b then f d else if z = b then b else f z))) := by
              rw [← outs_set (v := f d)]
              simp [astore, outs_len, show b + 1 ≤ x.g.length by omega, set_set]
            simp [hbp, g7, g13]
            refine (p_Next hT (b : Int)).acall ?_
            rw [hnx]
            simp [g13, e15, ixd, ldd, ixb, std, wr, -aload, -astore]
            refine fin (fun z => if z = b then f d else if z = b then b else f z) _ _ ?_ (fun y hy => by simp [hy]) (by simp) (fun j hj => by simp [hj]; exact hold j hj) ?_ ?_
            · simp
              exact .up hunm hd1 (hl d hd2)
            · simp [d0, d1, d7, d9, d13, d14, g1, g7, g9, g13, g14]
            · simp
end

end Go.Proofs.Ytmbbklddjkmcmaa

namespace Go.Proofs.Ytmbbklddjkmcmaa
set_option linter.unusedSimpArgs false
set_option linter.unusedVariables false
open Go Go.Fw Go.Dm

section
variable {L : List Int} {bs : List Nat} {x : GraphV} {r : RowV} {vp va vo : AV} {A : Nat → AV} {H : AHeap} {N id n c : Nat} {fs : List Fr} {Q : Post} {l lp la : List Int} {f : Nat → Nat}

theorem one_fronts (hT : TreeOk x.g L bs) (hm : mayG x.g = true) (hn : x.g.length ≤ 60) (hc : c < x.g.length) {m : Nat} (hmm : m ≤ 100) (hfrom : c ≠ 0 → ∀ b, FrG (Edge x.g) b c → 2 ≤ m)
    (h0 : A 0 = x.av) (h7 : A 7 = treeV x.g.length L bs) (h17 : A 17 = frV x.g) (h18 : A 18 = i64 c) (h19 : A 19 = i64 m) (h21 : A 21 = i64 0)
    (hk : ∀ (A' : Nat → AV), (∀ t ∈ [0, 7, 9, 13, 17, 18], A' t = A t) → onward Try.prog fs Q (.exit 8) ⟨A', H, N⟩) : run Try.prog (.loop a_bobbinlaw13_Oneb1) fs Q ⟨A, H, N⟩ := by
  have hl := x.len
  obtain ⟨hin, h00⟩ := may_in hm
  have hW := rows_frV x (by omega)
  have hws : frS x.g = frW x.g := by simp [frS, hm]
  rw [hws] at hW
  refine run_loop (fun k s => ∃ j, k = x.g.length - j ∧ j ≤ x.g.length ∧ (∀ t ∈ [0, 7, 9, 13, 17, 18, 19], s.A t = A t) ∧ s.A 21 = i64 j ∧ s.H = H ∧ s.N = N) x.g.length ?_ ?_
  · exact ⟨0, by omega, by omega, by simp, h21, rfl, rfl⟩
  · rintro k A1 H1 N1 ⟨j, hk', hj, hA, e21, hH, hN⟩
    simp only at hA e21 hH hN
    subst hH; subst hN
    have hA' := hA
    simp at hA'
    obtain ⟨g0, g7, g9, g13, g17, g18, g19⟩ := hA'
    rw [h0] at g0
    rw [h7] at g7
    rw [h17] at g17
    rw [h18] at g18
    rw [h19] at g19
    by_cases hjl : j = x.g.length
    · subst hjl
      simp [a_bobbinlaw13_Oneb1, g0, e21, hl, -alen]
      exact hk _ (by simp [g0, g7, g9, g13, g17, g18, h0, h7, h17, h18])
    · have hlt : j < x.g.length := by omega
      have hfa := hW.at_ j _ (frW_at hlt)
      have lr : aload H1 false 1 (.ip [rv (natI (frG x.g j))] 0) = some (rv (natI (frG x.g j))) := rfl
      have hlen : (natI (frG x.g j)).length ≤ 60 := by
        simp only [natI, List.length_map]
        exact Nat.le_trans setL_len hn
      have wr : IntKind.i64.wrap ((j : Int) + 1) = ((j + 1 : Nat) : Int) := by rw [wrap_i64 (by omega) (by omega)]; rfl
      simp [a_bobbinlaw13_Oneb1, g0, g17, g18, e21, hl, hlt, hfa, lr, -alen, -aload]
      refine (p_lHas (rv_rd _ H1) (by unfold maxLen; omega) (c : Int) N1).mono ?_
      rintro r' H2 N2 ⟨rfl, hH2, hN2⟩
      rw [hH2, hN2]
      by_cases hmem : (c : Int) ∈ natI (frG x.g j)
      · have hF : FrG (Edge x.g) j c := by
          obtain ⟨c', h1, h2⟩ := natI_mem.1 hmem
          have : c = c' := by omega
          rw [this]; exact (setL_mem.1 h2).2
        have q1 := rchI_of hT hF.src
        have q2 := rchI_of hT hF.dst
        simp [hmem, g7, e21]
        refine (p_Reached hT (j : Int)).acall ?_
        rw [q1]
        simp [g7, g18]
        refine (p_Reached hT (c : Int)).acall ?_
        rw [q2]
        by_cases hc0 : c = 0
        · have g18' : A1 18 = i64 0 := by rw [g18, hc0]; rfl
          simp [g18', e21, wr]
          exact ⟨x.g.length - (j + 1), by omega, j + 1, rfl, by omega, by simp [g0, g7, g9, g13, g17, g18', g19, h0, h7, h17, h18, h19, hc0], by simp⟩
        · have h2 := hfrom hc0 j hF
          simp [g18, g19, e21, hc0, show ¬ (c : Int) = 0 by omega, show ¬ (m : Int) < 2 by omega, wr]
          exact ⟨x.g.length - (j + 1), by omega, j + 1, rfl, by omega, by simp [g0, g7, g9, g13, g17, g18, g19, h0, h7, h17, h18, h19], by simp⟩
      · simp [hmem, e21, wr]
        exact ⟨x.g.length - (j + 1), by omega, j + 1, rfl, by omega, by simp [g0, g7, g9, g13, g17, g18, g19, h0, h7, h17, h18, h19], by simp⟩

/-- Those of the first j from which one comes. -/
def Frm (g : List RowV) (c b : Nat) : Prop := Rch (Edge g) b ∧ Edge g b c
open Classical in
theorem frm_next {g : List RowV} {j : Nat} : (setL (j + 1) (Frm g c)).length = (setL j (Frm g c)).length + (if Frm g c j then 1 else 0) := by
  unfold setL
  rw [List.range_succ, List.filter_append, List.length_append]
  congr 1
  by_cases h : Frm g c j <;> simp [h]

structure OnB (x : GraphV) (c : Nat) (A0 : Nat → AV) (H0 : AHeap) (N0 k : Nat) (s : St) : Prop where
  ex : ∃ j, k = x.g.length - j ∧ j ≤ x.g.length ∧ (∀ t ∈ [0, 7, 9, 13, 17, 18], s.A t = A0 t) ∧ s.A 19 = i64 (setL j (Frm x.g c)).length ∧ s.A 20 = i64 j ∧ s.H = H0 ∧ s.N = N0

theorem one_preds (hx : x.Ok) (hT : TreeOk x.g L bs) (hm : mayG x.g = true) (hn : x.g.length ≤ 60) (hc : c < x.g.length) (hp : RdSl H 1 (intCells (natI (plG x.g r.l))) vp) (hid : H id = some (.blk (outs x.g.length f))) (hL : ∀ b, Rch (Edge x.g) b → Lst x.g L r.l b (f b))
    (h0 : A 0 = x.av) (h7 : A 7 = treeV x.g.length L bs) (h9 : A 9 = vp) (h13 : A 13 = .ms id 0 x.g.length 1) (h18 : A 18 = i64 c) (h19 : A 19 = i64 0) (h20 : A 20 = i64 0)
    (hk : ∀ (A' : Nat → AV), (∀ t ∈ [0, 7, 9, 13, 17, 18], A' t = A t) → A' 19 = i64 (setL x.g.length (Frm x.g c)).length → onward Try.prog fs Q (.exit 6) ⟨A', H, N⟩) : run Try.prog (.loop a_bobbinlaw13_Oneb2) fs Q ⟨A, H, N⟩ := by
  have hl := x.len
  obtain ⟨hin, h00⟩ := may_in hm
  have hpll : (natI (plG x.g r.l)).length ≤ maxLen := by
    have : (natI (plG x.g r.l)).length ≤ 60 := by
      simp only [natI, List.length_map, plG, hm, if_true]
      exact Nat.le_trans setL_len hn
    unfold maxLen; omega
  refine run_loop (OnB x c A H N) x.g.length ?_ ?_
  · exact ⟨0, by omega, by omega, by simp, by show A 19 = _; rw [h19]; rfl, h20, rfl, rfl⟩
  · rintro k A1 H1 N1 ⟨j, hk', hj, hA, e19, e20, hH, hN⟩
    simp only at hA e19 e20 hH hN
    subst hH; subst hN
    have hA' := hA
    simp at hA'
    obtain ⟨g0, g7, g9, g13, g17, g18⟩ := hA'
    rw [h0] at g0
    rw [h7] at g7
    rw [h9] at g9
    rw [h13] at g13
    rw [h18] at g18
    by_cases hjl : j = x.g.length
    · subst hjl
      simp [a_bobbinlaw13_Oneb2, g0, e20, hl, -alen]
      exact hk _ (by simp [g0, g7, g9, g13, g17, g18, h0, h7, h9, h13, h18]) (by simp [e19])
    · have hlt : j < x.g.length := by omega
      have hr := hx.rows _ (List.getElem_mem hlt)
      have hq := row_at x hx hlt
      have hnx := frm_next (g := x.g) (c := c) (j := j)
      have hsl := setL_len (n := j) (S := Frm x.g c)
      have wr : IntKind.i64.wrap ((j : Int) + 1) = ((j + 1 : Nat) : Int) := by rw [wrap_i64 (by omega) (by omega)]; rfl
      have hEj : Edge x.g j c ↔ (c : Int) ∈ x.g[j].l := by
        unfold Edge
        rw [List.getElem?_eq_getElem hlt]
        simp
      have skip : ¬ Frm x.g c j → ∀ A3 : Nat → AV, (∀ t ∈ [0, 7, 9, 13, 17, 18], A3 t = A t) → A3 19 = A1 19 → A3 20 = i64 ((j + 1 : Nat) : Int) → ∃ k', k' < k ∧ OnB x c A H1 N1 k' ⟨A3, H1, N1⟩ := fun hno A3 q1 q2 q3 => by
        rw [if_neg hno] at hnx
        exact ⟨x.g.length - (j + 1), by omega, ⟨j + 1, rfl, by omega, q1, by show A3 19 = _; rw [q2, e19, hnx]; rfl, q3, rfl, rfl⟩⟩
      have wf : IntKind.i64.wrap (((setL j (Frm x.g c)).length : Int) + 1) = (((setL j (Frm x.g c)).length + 1 : Nat) : Int) := by rw [wrap_i64 (by omega) (by omega)]; rfl
      have take : Frm x.g c j → ∀ A3 : Nat → AV, (∀ t ∈ [0, 7, 9, 13, 17, 18], A3 t = A t) → A3 19 = i64 (((setL j (Frm x.g c)).length + 1 : Nat) : Int) → A3 20 = i64 ((j + 1 : Nat) : Int) → ∃ k', k' < k ∧ OnB x c A H1 N1 k' ⟨A3, H1, N1⟩ := fun hyes A3 q1 q2 q3 => by
        rw [if_pos hyes] at hnx
        exact ⟨x.g.length - (j + 1), by omega, ⟨j + 1, rfl, by omega, q1, by show A3 19 = _; rw [q2, hnx], q3, rfl, rfl⟩⟩
      simp [a_bobbinlaw13_Oneb2, g0, g7, e20, hl, hlt, -alen]
      refine (p_Reached hT (j : Int)).acall ?_
      rcases Bool.eq_false_or_eq_true (rchI bs (j : Int)) with hrj | hrj
      rotate_left
      · have hno : ¬ Frm x.g c j := fun h => by
          have := rchI_of hT h.1
          rw [hrj] at this; cases this
        simp [hrj, e20, wr]
        refine skip hno _ ?_ ?_ ?_ <;> simp [g0, g7, g9, g13, g17, g18, h0, h7, h9, h13, h18]
      · have hjr : Rch (Edge x.g) j := by
          have := (rch_iff hT).1 hrj
          simpa using this.2
        simp [hrj, g0, g18, e20, hq]
        refine (p_lHas (hr.rd H1) hr.hl (c : Int) N1).mono ?_
        rintro r' H2 N2 ⟨rfl, hH2, hN2⟩
        rw [hH2, hN2]
        by_cases hcm : (c : Int) ∈ x.g[j].l
        rotate_left
        · have hno : ¬ Frm x.g c j := fun h => hcm (hEj.1 h.2)
          simp [hcm, e20, wr]
          refine skip hno _ ?_ ?_ ?_ <;> simp [g0, g7, g9, g13, g17, g18, h0, h7, h9, h13, h18]
        · have hyes : Frm x.g c j := ⟨hjr, hEj.2 hcm⟩
          have hcr : Rch (Edge x.g) c := .step hjr hyes.2
          simp [hcm, g9, g18, e19, wf]
          refine (p_lHas hp hpll (c : Int) N1).mono ?_
          rintro r' H2 N2 ⟨rfl, hH2, hN2⟩
          rw [hH2, hN2]
          have hplm : (c : Int) ∈ natI (plG x.g r.l) ↔ Pl (FrG (Edge x.g)) (fun b => (b : Int) ∈ r.l) c := by
            rw [natI_mem]
            simp only [plG, hm, if_true]
            constructor
            · rintro ⟨c', h1, h2⟩
              have : c = c' := by omega
              rw [this]; exact (setL_mem.1 h2).2
            · intro h
              exact ⟨c, rfl, setL_mem.2 ⟨hc, h⟩⟩
          have ixj : aindex 1 (.ms id 0 x.g.length 1) (i64 j) = some (.mp id j) := by simp [aindex, hlt]
          have ldj : aload H1 false 1 (.mp id j) = some (i64 (f j)) := by simp [aload, apart, hid, outs_at hlt]
          by_cases hcp : (c : Int) ∈ natI (plG x.g r.l)
          · simp [hcp, e20, wr]
            refine take hyes _ ?_ ?_ ?_ <;> simp [g0, g7, g9, g13, g17, g18, h0, h7, h9, h13, h18]
          · have hcP : ¬ Pl (FrG (Edge x.g)) (fun b => (b : Int) ∈ r.l) c := fun h => hcp (hplm.2 h)
            by_cases hc0 : c = 0
            · have hf0 : f j = 0 := one_zero hT hjr (by rw [← hc0]; exact hyes.2) (by rw [← hc0]; exact hcP) (hL j hjr)
              have g18' : A1 18 = i64 0 := by rw [g18, hc0]; rfl
              rw [hf0] at ldj
              have ldj0 : aload H1 false 1 (.mp id j) = some (i64 0) := ldj
              simp [hcp, g13, g18', e20, ixj, ldj0, wr, -aload]
              refine take hyes _ ?_ ?_ ?_ <;> simp [g0, g7, g9, g13, g17, g18, h0, h7, h9, h13, h18]
            · obtain ⟨e, he⟩ := hT.sol.all c hcr hc0
              obtain ⟨her, _, _⟩ := hT.sol.fit.dn c e hcr he
              have hen := rch_lt hin h00 her
              have hfe : f j = f e := (one_same hT hjr hyes.2 hcP hc0 he (hL e her)).uniq (hL j hjr) |>.symm
              have hnx2 : nxI L bs (c : Int) = (e : Int) := by
                have h1 := nxOf_some he
                simp [nxI, rchI_of hT hcr, List.getD, h1]
              have ixe : aindex 1 (.ms id 0 x.g.length 1) (i64 e) = some (.mp id e) := by simp [aindex, hen]
              have lde : aload H1 false 1 (.mp id e) = some (i64 (f e)) := by simp [aload, apart, hid, outs_at hen]
              rw [hfe] at ldj
              simp [hcp, g7, g13, g18, e20, hc0, show ¬ (c : Int) = 0 by omega, ixj, ldj, -aload]
              refine callK_2 (p_Next hT (c : Int)) ?_
              rw [hnx2]
              simp [g13, e20, ixe, lde, ldj, wr, -aload]
              refine take hyes _ ?_ ?_ ?_ <;> simp [g0, g7, g9, g13, g17, g18, h0, h7, h9, h13, h18]

/-- Over all blocks. -/
theorem one_blocks (hx : x.Ok) (hT : TreeOk x.g L bs) (hm : mayG x.g = true) (hn : x.g.length ≤ 60) (hp : RdSl H 1 (intCells (natI (plG x.g r.l))) vp) (hid : H id = some (.blk (outs x.g.length f))) (hL : ∀ b, Rch (Edge x.g) b → Lst x.g L r.l b (f b))
    (h0 : A 0 = x.av) (h7 : A 7 = treeV x.g.length L bs) (h9 : A 9 = vp) (h13 : A 13 = .ms id 0 x.g.length 1) (h17 : A 17 = frV x.g) (h18 : A 18 = i64 0)
    (hk : ∀ (A' : Nat → AV), onward Try.prog fs Q (.exit 4) ⟨A', H, N⟩) : run Try.prog (.loop a_bobbinlaw13_Oneb3) fs Q ⟨A, H, N⟩ := by
  have hl := x.len
  obtain ⟨hin, h00⟩ := may_in hm
  refine run_loop (fun k s => ∃ c, k = x.g.length - c ∧ c ≤ x.g.length ∧ (∀ t ∈ [0, 7, 9, 13, 17], s.A t = A t) ∧ s.A 18 = i64 c ∧ s.H = H ∧ s.N = N) x.g.length ?_ ?_
  · exact ⟨0, by omega, by omega, by simp, h18, rfl, rfl⟩
  · rintro k A1 H1 N1 ⟨c, hk', hc, hA, e18, hH, hN⟩
    simp only at hA e18 hH hN
    subst hH; subst hN
    have hA' := hA
    simp at hA'
    obtain ⟨g0, g7, g9, g13, g17⟩ := hA'
    rw [h0] at g0
    rw [h7] at g7
    rw [h9] at g9
    rw [h13] at g13
    rw [h17] at g17
    by_cases hcl : c = x.g.length
    · subst hcl
      simp [a_bobbinlaw13_Oneb3, g0, e18, hl, -alen]
      exact hk _
    · have hlt : c < x.g.length := by omega
      have wr : IntKind.i64.wrap ((c : Int) + 1) = ((c + 1 : Nat) : Int) := by rw [wrap_i64 (by omega) (by omega)]; rfl
      simp [a_bobbinlaw13_Oneb3, g0, e18, hl, hlt, -alen]
      refine one_preds (c := c) (vp := vp) (id := id) (f := f) (r := r) hx hT hm hn hlt hp hid hL ?_ ?_ ?_ ?_ ?_ ?_ ?_ fun A2 hA2 e19 => ?_
      · simp [g0]
      · simp [g7]
      · simp [g9]
      · simp [g13]
      · simp [e18]
      · simp
      · simp
      simp at hA2
      obtain ⟨k0, k7, k9, k13, k17, k18⟩ := hA2
      simp
      refine one_fronts (c := c) (m := (setL x.g.length (Frm x.g c)).length) hT hm hn hlt (Nat.le_trans setL_len (by omega)) (fun hc0 b hF => ?_) ?_ ?_ ?_ ?_ ?_ ?_ fun A3 hA3 => ?_
      · obtain ⟨p, q, hpq, h1, h2, h3, h4⟩ := fr_two hF hc0
        exact nodup_two (setL_mem.2 ⟨rch_lt hin h00 h1, h1, h2⟩) (setL_mem.2 ⟨rch_lt hin h00 h3, h3, h4⟩) hpq
      · simp [k0, g0]
      · simp [k7, g7]
      · simp [k17, g17]
      · simp [k18, e18]
      · simp [e19]
      · simp
      simp at hA3
      obtain ⟨q0, q7, q9, q13, q17, q18⟩ := hA3
      simp [q18, k18, e18, wr]
      exact ⟨x.g.length - (c + 1), by omega, c + 1, rfl, by omega, by simp [q0, q7, q9, q13, q17, k0, k7, k9, k13, k17, g0, g7, g9, g13, g17, h0, h7, h9, h13, h17], by simp⟩
end

end Go.Proofs.Ytmbbklddjkmcmaa

namespace Go.Proofs.Ytmbbklddjkmcmaa
set_option linter.unusedSimpArgs false
set_option linter.unusedVariables false
open Go Go.Fw Go.Dm

section
variable {x : GraphV} {r : RowV} {g : List RowV}

theorem plG_more {l l' : List Int} (h : ∀ v ∈ l, v ∈ l') : ∀ v ∈ natI (plG g l), v ∈ natI (plG g l') := fun v hv => by
  obtain ⟨c, rfl, h2⟩ := natI_mem.1 hv
  refine natI_mem.2 ⟨c, rfl, ?_⟩
  unfold plG at h2 ⊢
  split
  · rename_i hm
    rw [if_pos hm] at h2
    obtain ⟨h3, h4⟩ := setL_mem.1 h2
    exact setL_mem.2 ⟨h3, h4.mono fun b hb => h _ hb⟩
  · rename_i hm
    rw [if_neg hm] at h2
    simp at h2
theorem plG_may (hm : mayG g = true) (l : List Int) : plG g l = setL g.length (Pl (FrG (Edge g)) fun b => (b : Int) ∈ l) := if_pos hm
theorem plG_both {l : List Int} : plG g (l ++ natI (plG g l)) = plG g l := by
  by_cases hm : mayG g = true
  · rw [plG_may hm (l ++ natI (plG g l))]
    conv => rhs; rw [plG_may hm l]
    refine setL_congr fun c hcn => ?_
    clear hcn
    constructor
    · intro hc
      induction hc with
      | @base b c h3 h4 =>
        rcases List.mem_append.1 h3 with h5 | h5
        · exact .base h5 h4
        · obtain ⟨c', h6, h7⟩ := natI_mem.1 h5
          rw [plG_may hm] at h7
          have h8 := (setL_mem.1 h7).2
          have : b = c' := by omega
          rw [← this] at h8
          exact .step h8 h4
      | step _ h4 ih => exact .step ih h4
    · exact fun hc => hc.mono fun b hb => List.mem_append.2 (.inl hb)
  · unfold plG; rw [if_neg hm, if_neg hm]
theorem plG_none : plG g [] = [] := by
  unfold plG
  split
  · apply List.eq_nil_iff_forall_not_mem.2
    intro c hc
    have := (setL_mem.1 hc).2
    induction this with
    | base h _ => simp at h
    | step h1 _ ih => exact ih (by
        rename_i hm _ _ h2
        obtain ⟨hin, h00⟩ := may_in hm
        exact setL_mem.2 ⟨(frG_in hin h00 _ _ h2).1, h1⟩)
  · rfl
theorem plG_short (hn : g.length ≤ 60) {l : List Int} : (natI (plG g l)).length ≤ 60 := by
  simp only [natI, List.length_map]
  unfold plG
  split
  · exact Nat.le_trans setL_len hn
  · exact Nat.zero_le _

/-- Two rows behind nothing. -/
theorem app_two {H : AHeap} {N : Nat} {l m : List Int} {v w : AV} (hF : Fresh H N) (hv : asrc H 1 v = some ((intCells l).flatten, (intCells l).length)) (hw : ∀ H' : AHeap, (∀ i, i < N → H' i = H i) → asrc H' 1 w = some ((intCells m).flatten, (intCells m).length)) (hl : l.length ≤ 1000) (hm : m.length ≤ 1000) :
    ∃ v1 H1 N1 v2 H2 N2, aappend false 1 8 H N (.sl .exact 1 []) v = some (v1, H1, N1) ∧ aappend false 1 8 H1 N1 v1 w = some (v2, H2, N2) ∧ Built H2 N 1 (.sl .exact 1 []) (intCells (l ++ m)) v2 ∧ (∀ i, i < N → H2 i = H i) ∧ N ≤ N2 ∧ Fresh H2 N2 := by
  have hlim : 1000000 ≤ lim := by unfold lim; decide
  obtain ⟨v1, H1, N1, ap1, hB1, low1, hN1, hF1⟩ := Built.append (bytes := 8) (Built.empty : Built H N 1 (.sl .exact 1 []) [] (.sl .exact 1 [])) hF (Nat.le_refl _) hv (intCells_sz _) (by simp [intCells_len]; omega) (by simp [intCells_len]; omega)
  rw [List.nil_append] at hB1
  obtain ⟨v2, H2, N2, ap2, hB2, low2, hN2, hF2⟩ := hB1.append (bytes := 8) hF1 hN1 (hw H1 low1) (intCells_sz _) (by simp [intCells_len]; omega) (by simp [intCells_len]; omega)
  rw [← intCells_app] at hB2
  exact ⟨v1, H1, N1, v2, H2, N2, ap1, ap2, hB2, fun i hi => (low2 i hi).trans (low1 i hi), by omega, hF2⟩

theorem p_FrontOne (x : GraphV) (hx : x.Ok) (hRe : ∀ r ∈ x.g, r.l.length * 8 ≤ reachBytes) (r : RowV) (hr : r.Ok) (s : RowV) (hs : s.Ok) (H : AHeap) (N : Nat) : ACall Try.prog 13 [x.av, r.av, s.av] H N (fun r _ _ => r = bl true) := by
  refine acallF mixed c_bobbinlaw13_One (by simp) fun hF => ?_
  have hl := x.len
  have hsl := row_alen s hs
  simp [a_bobbinlaw13_One]
  refine p_works.acall ?_
  simp
  refine (p_large x hx hRe r hr H N).mono ?_
  rintro r' H' N' ⟨hH', hN', b, rfl, hb⟩
  subst hH'; subst hN'
  cases b with
  | true =>
    simp
    refine p_works.acall ?_
    simp
  | false =>
    obtain ⟨hn, he, hrl⟩ := hb rfl
    by_cases hs4 : s.l.length ≤ 400
    rotate_left
    · simp [hsl, show (400 : Int) < s.l.length by omega, -alen]
      refine p_works.acall ?_
      simp
    simp [hsl, show ¬ (400 : Int) < s.l.length by omega, -alen]
    refine (p_Of x hx (by omega)).acall ?_
    intro rt hrt
    by_cases hm : mayG x.g = true
    rotate_left
    · rw [if_neg hm] at hrt
      subst hrt
      simp
      refine (a_Placed (ls := r.l) (v := r.av) hx (by omega) (by omega) (by omega) (fun H' _ => hr.rd H')).mono ?_
      rintro r3 H3 N3 ⟨hs3, _, _⟩
      have hnil : plG x.g r.l = [] := by unfold plG; rw [if_neg hm]
      rw [hnil] at hs3
      have hl3 : alen 1 r3 = some 0 := by have := hs3.rd.len; rwa [intCells_len] at this
      simp [hl3, -alen]
    rw [if_pos hm] at hrt
    obtain ⟨L, bs, hT, rfl⟩ := hrt
    obtain ⟨hin, h00⟩ := may_in hm
    simp
    refine (a_Placed (ls := r.l) (v := r.av) hx (by omega) (by omega) (by omega) (fun H' _ => hr.rd H')).monoF ?_
    rintro vp H3 N3 ⟨hsp, low3, hN3⟩ hF3 _
    have hpl := plG_short hn (l := r.l)
    obtain ⟨v4, H4, N4, v5, H5, N5, ap4, ap5, hB5, low5, hN5, hF5⟩ := app_two hF3 (rsrc hr H3) (w := vp) (m := natI (plG x.g r.l)) (fun H' hk => (hsp.later hF3 hk).src) (by omega) (by omega)
    simp [ap4, ap5]
    refine (a_Placed (ls := r.l ++ natI (plG x.g r.l)) (v := v5) hx (by omega) (by omega) (by simp; omega) (fun H' hk => hB5.rd.later hF5 hk)).monoF ?_
    rintro vb H6 N6 ⟨hsb, low6, hN6⟩ hF6 _
    rw [plG_both] at hsb
    obtain ⟨v7, H7, N7, v8, H8, N8, ap7, ap8, hB8, low8, hN8, hF8⟩ := app_two hF6 (rsrc hr H6) (w := s.av) (m := s.l) (fun H' _ => rsrc hs H') (by omega) (by omega)
    simp [ap7, ap8]
    refine (a_Placed (ls := r.l ++ s.l) (v := v8) hx (by omega) (by omega) (by simp; omega) (fun H' hk => hB8.rd.later hF8 hk)).monoF ?_
    rintro va H9 N9 ⟨hsa, low9, hN9⟩ hF9 _
    have k3_9 : ∀ i, i < N3 → H9 i = H3 i := fun i hi => (low9 i (by omega)).trans ((low8 i (by omega)).trans ((low6 i (by omega)).trans (low5 i hi)))
    have k6_9 : ∀ i, i < N6 → H9 i = H6 i := fun i hi => (low9 i (by omega)).trans (low8 i hi)
    have hsp9 := hsp.later hF3 k3_9
    have hsb9 := hsb.later hF6 k6_9
    simp
    refine (p_Ints hsb9.rd hsp9.rd (by unfold maxLen; omega) N9).mono ?_
    rintro r' H' N' ⟨rfl, hH', hN'⟩
    rw [hH', hN']
    simp
    refine (a_Placed (ls := []) (v := .sl .nil 0 []) (H := H9) (N := N9) hx (by omega) (by omega) (by simp) (fun H' _ => .nil _ _)).monoF ?_
    rintro vn H10 N10 ⟨hsn, low10, hN10⟩ hF10 _
    rw [plG_none] at hsn
    have hln : alen 1 vn = some 0 := by have := hsn.rd.len; rwa [intCells_len] at this
    have hsp10 := hsp9.later hF9 low10
    have hsa10 := hsa.later hF9 low10
    simp [hln, -alen]
    refine one_cmp (lp := natI (plG x.g r.l)) (la := natI (plG x.g (r.l ++ s.l))) (vp := vp) (va := va) (by omega) (by have := plG_short hn (l := r.l ++ s.l); unfold maxLen; omega) hsp10.rd hsa10.rd (plG_more fun v hv => List.mem_append.2 (.inl hv)) (natI_lt plG_lt) ?_ ?_ ?_ fun A2 hA2 => ?_
    · simp
    · simp
    · simp
    simp at hA2
    obtain ⟨g0, g1, g7, g9⟩ := hA2
    have hmk : amake 1 8 [i64 0] (i64 x.g.length) (i64 x.g.length) = some (x.g.length, x.g.length) := by
      simp [amake]; omega
    have hrep : (List.replicate x.g.length (AV.lit (Value.int IntKind.i64 0))) = outs x.g.length fun _ => 0 := by
      apply List.ext_getElem?
      intro i
      by_cases hi : i < x.g.length
      · rw [outs_at hi]; simp [hi]
      · simp [outs, hi]
    simp [g0, g7, hl, hmk, -alen]
    refine (a_Order hT (by omega) _ _).monoF ?_
    rintro vo H12 N12 ⟨hN12, low12, hBo⟩ hF12 _
    simp
    have hid : H12 N10 = some (.blk (outs x.g.length fun _ => 0)) := by
      rw [low12 N10 (by omega)]
      simp [hrep]
    have k10_12 : ∀ i, i < N10 → H12 i = H10 i := fun i hi => by
      rw [low12 i (by omega)]
      simp [show i ≠ N10 by omega]
    refine one_out (id := N10) (x := x) (r := r) (vp := vp) (vo := vo) hT hm hr (fun H' hk => hsp10.rd.later hF10 fun i hi => (hk i (by omega)).trans (k10_12 i hi)) (fun H' hk => (hBo.keep fun j hj => hk j (by omega)).rd) hn hid ?_ ?_ ?_ ?_ ?_ ?_ ?_
    · simp [g1]
    · simp [g7]
    · simp [g9]
    · simp
    · simp
    · simp
    intro A3 H13 f hA3 hid13 hold13 hL
    simp at hA3
    obtain ⟨k0, k1, k7, k9, k13, k14⟩ := hA3
    simp [k0, g0]
    refine (p_frOf x hx (by omega) (by omega)).acall ?_
    simp
    refine one_blocks (id := N10) (f := f) (r := r) (vp := vp) hx hT hm hn (hsp10.rd.later hF10 fun i hi => (hold13 i (by omega)).trans (k10_12 i hi)) hid13 hL ?_ ?_ ?_ ?_ ?_ ?_ fun A4 => ?_
    · simp [k0, g0]
    · simp [k7, g7]
    · simp [k9, g9]
    · simp [k13]
    · simp
    · simp
    simp
end

end Go.Proofs.Ytmbbklddjkmcmaa
