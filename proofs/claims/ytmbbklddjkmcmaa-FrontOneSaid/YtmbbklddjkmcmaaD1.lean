/- dom, the plain law: blocks that are above a block, found by going over all blocks till nothing changes. No program in sight. -/
namespace Go.Dm
set_option linter.unusedSimpArgs false
set_option linter.unusedVariables false

/-- c is met on the way up from b. -/
inductive Up (nx : Nat → Option Nat) : Nat → Nat → Prop
  | refl (b : Nat) : Up nx b b
  | step {c b d : Nat} : nx b = some d → Up nx c d → Up nx c b

/-- b is reached from 0 without c. -/
inductive Av (E : Nat → Nat → Prop) (c : Nat) : Nat → Prop
  | zero : c ≠ 0 → Av E c 0
  | step {a b : Nat} : Av E c a → E a b → b ≠ c → Av E c b

/-- b is reached from 0. -/
inductive Rch (E : Nat → Nat → Prop) : Nat → Prop
  | zero : Rch E 0
  | step {a b : Nat} : Rch E a → E a b → Rch E b

theorem Av.rch {E : Nat → Nat → Prop} {c b : Nat} (h : Av E c b) : Rch E b := by
  induction h with
  | zero => exact .zero
  | step _ he _ ih => exact .step ih he

/-- The row in which the blocks lie: each but 0 has one ahead of it from which one comes to it. -/
structure Ord (E : Nat → Nat → Prop) (pl pr : Nat → Nat) : Prop where
  pl0 : pl 0 = 0
  inj : ∀ a b, Rch E a → Rch E b → pl a = pl b → a = b
  pr : ∀ b, Rch E b → b ≠ 0 → Rch E (pr b) ∧ E (pr b) b ∧ pl (pr b) < pl b

section
variable {E : Nat → Nat → Prop} {pl pr : Nat → Nat} {nx O W : Nat → Option Nat} {a b c d p q : Nat}

/-- All that are reached and lie ahead of place i have a next one, but 0. -/
structure Fit (E : Nat → Nat → Prop) (pl : Nat → Nat) (nx : Nat → Option Nat) : Prop where
  z : nx 0 = none
  dn : ∀ b d, Rch E b → nx b = some d → Rch E d ∧ pl d < pl b ∧ (d = 0 ∨ ∃ e, nx d = some e)

theorem Up.trans (h : Up nx c a) (k : Up nx a b) : Up nx c b := by
  induction k with
  | refl => exact h
  | step h1 _ ih => exact .step h1 ih

theorem Up.inv (h : Up nx c b) (hne : c ≠ b) : ∃ d, nx b = some d ∧ Up nx c d := by
  cases h with
  | refl => exact absurd rfl hne
  | step h1 h2 => exact ⟨_, h1, h2⟩

theorem Up.zero (hz : nx 0 = none) (h : Up nx c 0) : c = 0 := by
  cases h with
  | refl => rfl
  | step h1 _ => rw [hz] at h1; cases h1

theorem Up.rch (hf : Fit E pl nx) (h : Up nx c b) (hb : Rch E b) : Rch E c := by
  induction h with
  | refl => exact hb
  | step h1 _ ih => exact ih (hf.dn _ _ hb h1).1

theorem Up.le (hf : Fit E pl nx) (h : Up nx c b) (hb : Rch E b) : pl c ≤ pl b := by
  induction h with
  | refl => exact Nat.le_refl _
  | step h1 _ ih => have := hf.dn _ _ hb h1; have := ih this.1; omega

theorem Up.lt (hf : Fit E pl nx) (h : Up nx c b) (hb : Rch E b) (hne : c ≠ b) : pl c < pl b := by
  obtain ⟨d, h1, h2⟩ := h.inv hne
  have := hf.dn _ _ hb h1
  have := h2.le hf this.1
  omega

/-- The ways up from one block lie in one row. -/
theorem Up.linear (hf : Fit E pl nx) (hc : Up nx c b) (hd : Up nx d b) (hb : Rch E b) (hle : pl c ≤ pl d) : Up nx c d := by
  induction hd with
  | refl => exact hc
  | @step b e h1 h2 ih =>
    by_cases hcb : c = b
    · subst hcb
      have := hf.dn _ _ hb h1
      have := h2.le hf this.1
      omega
    · obtain ⟨e', h3, h4⟩ := hc.inv hcb
      rw [h1] at h3; cases h3
      exact ih h4 (hf.dn _ _ hb h1).1

/-- The ways up hang only on what is at or ahead of the block. -/
theorem Up.congr (hf : Fit E pl nx) {nx' : Nat → Option Nat} {i : Nat} (hsame : ∀ x, Rch E x → pl x < i → nx' x = nx x) (h : Up nx c b) (hb : Rch E b) (hi : pl b < i) : Up nx' c b := by
  induction h with
  | refl => exact .refl _
  | step h1 _ ih =>
    have := hf.dn _ _ hb h1
    exact .step ((hsame _ hb hi).trans h1) (ih this.1 (by omega))

/-- What meets below. -/
theorem meet_left (hf : Fit E pl nx) (hb : Rch E b) (hd : nx a = some d) (hlt : pl b < pl a) : (Up nx c a ∧ Up nx c b) ↔ (Up nx c d ∧ Up nx c b) := by
  constructor
  · rintro ⟨h1, h2⟩
    refine ⟨?_, h2⟩
    have hne : c ≠ a := fun h => by subst h; have := h2.le hf hb; omega
    obtain ⟨e, h3, h4⟩ := h1.inv hne
    rw [hd] at h3; cases h3
    exact h4
  · rintro ⟨h1, h2⟩
    exact ⟨.step hd h1, h2⟩

/-- One block's ancestors in the first row. -/
inductive Anc (pr : Nat → Nat) : Nat → Nat → Prop
  | refl (b : Nat) : Anc pr b b
  | step {c b : Nat} : b ≠ 0 → Anc pr c (pr b) → Anc pr c b

theorem Anc.rch (ho : Ord E pl pr) (h : Anc pr c b) (hb : Rch E b) : Rch E c := by
  induction h with
  | refl => exact hb
  | step hb0 _ ih => exact ih (ho.pr _ hb hb0).1
theorem Anc.le (ho : Ord E pl pr) (h : Anc pr c b) (hb : Rch E b) : pl c ≤ pl b := by
  induction h with
  | refl => exact Nat.le_refl _
  | step hb0 _ ih => have := ho.pr _ hb hb0; have := ih this.1; omega

theorem Anc.av (ho : Ord E pl pr) (h : Anc pr q p) (hp : Rch E p) (hc : pl c ≤ pl q) (hq : Av E c q) : Av E c p := by
  induction h with
  | refl => exact hq
  | @step b hb0 hA ih =>
    have h1 := ho.pr _ hp hb0
    refine .step (ih h1.1) h1.2.1 fun he => ?_
    subst he
    have := hA.le ho h1.1
    omega

/-- What keeps through all rounds: each one's row lies in its first one's row (k); what is above all from which one comes is above (j). -/
structure Inv (E : Nat → Nat → Prop) (pl pr : Nat → Nat) (O : Nat → Option Nat) : Prop where
  fit : Fit E pl O
  all : ∀ b, Rch E b → b ≠ 0 → ∃ d, O b = some d
  k : ∀ b c, Rch E b → b ≠ 0 → Up O c b → c ≠ b → Up O c (pr b)
  j : ∀ b c, Rch E b → b ≠ 0 → pl c < pl b → (∀ p, Rch E p → E p b → Up O c p) → Up O c b
  s : ∀ b c, Rch E b → ¬ Av E c b → Up O c b

theorem anc_of (ho : Ord E pl pr) (hz : O 0 = none) (hk : ∀ b c, Rch E b → b ≠ 0 → Up O c b → c ≠ b → Up O c (pr b)) : ∀ (n : Nat) {c b : Nat}, pl b ≤ n → Rch E b → Up O c b → Anc pr c b
  | n, c, b, hn, hb, h => by
    by_cases hne : c = b
    · subst hne; exact .refl _
    · have hb0 : b ≠ 0 := fun h0 => by subst h0; exact hne (h.zero hz)
      have h1 := ho.pr _ hb hb0
      match n, hn with
      | 0, hn => omega
      | n + 1, hn => exact .step hb0 (anc_of ho hz hk n (by omega) h1.1 (hk b c hb hb0 h hne))

/-- Down the first row. -/
theorem down (ho : Ord E pl pr) (hk : ∀ b c, Rch E b → b ≠ 0 → Up O c b → c ≠ b → Up O c (pr b)) (hA : Anc pr q p) (hp : Rch E p) (h : Up O c p) (hle : pl c ≤ pl q) : Up O c q := by
  induction hA with
  | refl => exact h
  | @step b hb0 hA ih =>
    have h1 := ho.pr _ hp hb0
    have hq := hA.le ho h1.1
    exact ih h1.1 (hk b c hp hb0 h fun he => by subst he; omega)

/-- What a round sees of the blocks: those ahead of place i are new. -/
def mix (pl : Nat → Nat) (O W : Nat → Option Nat) (i : Nat) (x : Nat) : Option Nat := if pl x < i then W x else O x

theorem mix_lt {i x : Nat} (h : pl x < i) : mix pl O W i x = W x := by simp [mix, h]
theorem mix_ge {i x : Nat} (h : ¬ pl x < i) : mix pl O W i x = O x := by simp [mix, h]

/-- Next ones lie ahead. -/
def Ahead (E : Nat → Nat → Prop) (pl : Nat → Nat) (W : Nat → Option Nat) (i : Nat) : Prop := ∀ b d, Rch E b → pl b < i → W b = some d → Rch E d ∧ pl d < pl b

theorem mix_of {i : Nat} (hW : Ahead E pl W i) (hp : Rch E p) (hi : pl p < i) (h : Up W c p) : Up (mix pl O W i) c p := by
  induction h with
  | refl => exact .refl _
  | step h1 _ ih =>
    have := hW _ _ hp hi h1
    exact .step ((mix_lt hi).trans h1) (ih this.1 (by omega))
theorem of_mix {i : Nat} (hW : Ahead E pl W i) (hp : Rch E p) (hi : pl p < i) (h : Up (mix pl O W i) c p) : Up W c p := by
  induction h with
  | refl => exact .refl _
  | step h1 _ ih =>
    rw [mix_lt hi] at h1
    have := hW _ _ hp hi h1
    exact .step h1 (ih this.1 (by omega))

theorem mix_up (hf : Fit E pl O) {i : Nat} (hW : Ahead E pl W i) (hp : Rch E p) (hc : pl c < i) (h : Up (mix pl O W i) c p) : ∃ q, Up O q p ∧ Rch E q ∧ pl q < i ∧ Up W c q := by
  induction h with
  | refl => exact ⟨_, .refl _, hp, hc, .refl _⟩
  | @step p d h1 h2 ih =>
    by_cases hi : pl p < i
    · exact ⟨p, .refl _, hp, hi, of_mix hW hp hi (.step h1 h2)⟩
    · rw [mix_ge hi] at h1
      obtain ⟨q, g1, g2, g3, g4⟩ := ih (hf.dn _ _ hp h1).1
      exact ⟨q, .step h1 g1, g2, g3, g4⟩

/-- The first one on the way up that lies ahead of place i. -/
theorem up_first (hf : Fit E pl O) {i : Nat} (hW : Ahead E pl W i) (h : Up O c p) (hp : Rch E p) (hc : pl c < i) :
    ∃ q, Up O q p ∧ Rch E q ∧ pl q < i ∧ Up O c q ∧ ∀ x, Up W x q → Up (mix pl O W i) x p := by
  induction h with
  | refl => exact ⟨_, .refl _, hp, hc, .refl _, fun _ h => mix_of hW hp hc h⟩
  | @step p d h1 h2 ih =>
    by_cases hi : pl p < i
    · exact ⟨p, .refl _, hp, hi, .step h1 h2, fun _ h => mix_of hW hp hi h⟩
    · obtain ⟨q, g1, g2, g3, g4, g5⟩ := ih (hf.dn _ _ hp h1).1
      exact ⟨q, .step h1 g1, g2, g3, g4, fun x hx => .step ((mix_ge hi).trans h1) (g5 x hx)⟩

/-- A round over all blocks. -/
structure Whole (E : Nat → Nat → Prop) (pl : Nat → Nat) (O W : Nat → Option Nat) : Prop where
  z : W 0 = none
  dn : ∀ b, Rch E b → b ≠ 0 → ∃ d, W b = some d ∧ Rch E d ∧ pl d < pl b
  ch : ∀ b, Rch E b → b ≠ 0 → ∀ c, pl c < pl b → (Up W c b ↔ ∀ p, Rch E p → E p b → (pl p < pl b ∨ ∃ d, O p = some d) → Up (mix pl O W (pl b)) c p)

theorem Whole.fit (h : Whole E pl O W) : Fit E pl W := by
  refine ⟨h.z, fun b d hb hd => ?_⟩
  have hb0 : b ≠ 0 := fun h0 => by rw [h0, h.z] at hd; cases hd
  obtain ⟨d', h1, h2, h3⟩ := h.dn b hb hb0
  rw [hd] at h1; cases h1
  refine ⟨h2, h3, ?_⟩
  by_cases hd0 : d = 0
  · exact .inl hd0
  · obtain ⟨e, he, _⟩ := h.dn d h2 hd0
    exact .inr ⟨e, he⟩

theorem Whole.ahead (h : Whole E pl O W) (i : Nat) : Ahead E pl W i := fun b d hb _ hd => ⟨(h.fit.dn b d hb hd).1, (h.fit.dn b d hb hd).2.1⟩

theorem Whole.k (ho : Ord E pl pr) (h : Whole E pl O W) : ∀ b c, Rch E b → b ≠ 0 → Up W c b → c ≠ b → Up W c (pr b) := fun b c hb hb0 hu hne => by
  have h1 := ho.pr _ hb hb0
  have hlt := hu.lt h.fit hb hne
  exact of_mix (h.ahead _) h1.1 h1.2.2 ((h.ch b hb hb0 c hlt).1 hu _ h1.1 h1.2.1 (.inl h1.2.2))

/-- Ways up grow no longer. -/
theorem Whole.sub (ho : Ord E pl pr) (h : Whole E pl O W) (hO : Inv E pl pr O) : ∀ (n : Nat) (b c : Nat), pl b ≤ n → Rch E b → Up W c b → Up O c b
  | n, b, c, hn, hb, hu => by
    by_cases hne : c = b
    · subst hne; exact .refl _
    · have hb0 : b ≠ 0 := fun h0 => by subst h0; exact hne (hu.zero h.z)
      have hlt := hu.lt h.fit hb hne
      match n, hn with
      | 0, hn => omega
      | n + 1, hn =>
        refine hO.j b c hb hb0 hlt fun p hp hE => ?_
        by_cases hpb : pl p < pl b
        · exact h.sub ho hO n p c (by omega) hp (of_mix (h.ahead _) hp hpb ((h.ch b hb hb0 c hlt).1 hu p hp hE (.inl hpb)))
        · have hp0 : p ≠ 0 := fun h0 => by subst h0; rw [ho.pl0] at hpb; omega
          obtain ⟨q, g1, g2, g3, g4⟩ := mix_up hO.fit (h.ahead _) hp hlt ((h.ch b hb hb0 c hlt).1 hu p hp hE (.inr (hO.all p hp hp0)))
          exact (h.sub ho hO n q c (by omega) g2 g4).trans g1

theorem Whole.j (ho : Ord E pl pr) (h : Whole E pl O W) (hO : (∀ x, O x = none) ∨ Inv E pl pr O) : ∀ b c, Rch E b → b ≠ 0 → pl c < pl b → (∀ p, Rch E p → E p b → Up W c p) → Up W c b := fun b c hb hb0 hlt hall => by
  refine (h.ch b hb hb0 c hlt).2 fun p hp hE hd => ?_
  by_cases hpb : pl p < pl b
  · exact mix_of (h.ahead _) hp hpb (hall p hp hE)
  · obtain ⟨d, hd⟩ := hd.resolve_left hpb
    rcases hO with hO | hO
    · rw [hO p] at hd; cases hd
    · have hu := h.sub ho hO _ p c (Nat.le_refl _) hp (hall p hp hE)
      obtain ⟨q, g1, g2, g3, g4, g5⟩ := up_first hO.fit (h.ahead (pl b)) hu hp hlt
      exact g5 c (down ho (h.k ho) (anc_of ho hO.fit.z hO.k _ (Nat.le_refl _) hp g1) hp (hall p hp hE) (g4.le hO.fit g2))

theorem Whole.s (ho : Ord E pl pr) (h : Whole E pl O W) (hO : (∀ x, O x = none) ∨ Inv E pl pr O) : ∀ (n : Nat) (b c : Nat), pl b ≤ n → Rch E b → ¬ Av E c b → Up W c b
  | n, b, c, hn, hb, hav => by
    by_cases hne : c = b
    · subst hne; exact .refl _
    · have hb0 : b ≠ 0 := fun h0 => by subst h0; exact hav (.zero hne)
      have h1 := ho.pr _ hb hb0
      have hpre : ∀ p, E p b → ¬ Av E c p := fun p hE hp => hav (.step hp hE (Ne.symm hne))
      match n, hn with
      | 0, hn => omega
      | n + 1, hn =>
        have hlt : pl c < pl b := by
          have := (h.s ho hO n (pr b) c (by omega) h1.1 (hpre _ h1.2.1)).le h.fit h1.1
          omega
        refine (h.ch b hb hb0 c hlt).2 fun p hp hE hd => ?_
        by_cases hpb : pl p < pl b
        · exact mix_of (h.ahead _) hp hpb (h.s ho hO n p c (by omega) hp (hpre p hE))
        · obtain ⟨d, hd⟩ := hd.resolve_left hpb
          rcases id hO with hO' | hO'
          · rw [hO' p] at hd; cases hd
          · obtain ⟨q, g1, g2, g3, g4, g5⟩ := up_first hO'.fit (h.ahead (pl b)) (hO'.s p c hp (hpre p hE)) hp hlt
            refine g5 c (h.s ho hO n q c (by omega) g2 fun hq => hpre p hE ?_)
            exact (anc_of ho hO'.fit.z hO'.k _ (Nat.le_refl _) hp g1).av ho hp (g4.le hO'.fit g2) hq

/-- What a round leaves. -/
theorem Whole.inv (ho : Ord E pl pr) (h : Whole E pl O W) (hO : (∀ x, O x = none) ∨ Inv E pl pr O) : Inv E pl pr W where
  fit := h.fit
  all := fun b hb hb0 => by obtain ⟨d, hd, _⟩ := h.dn b hb hb0; exact ⟨d, hd⟩
  k := h.k ho
  j := h.j ho hO
  s := fun b c hb hav => h.s ho hO _ b c (Nat.le_refl _) hb hav

/-- Next ones go ahead, from round to round. -/
theorem Whole.less (ho : Ord E pl pr) (h : Whole E pl O W) (hO : Inv E pl pr O) {b d e : Nat} (hb : Rch E b) (hd : W b = some d) (he : O b = some e) : pl d ≤ pl e ∧ (pl d = pl e → d = e) := by
  have h1 := h.fit.dn b d hb hd
  have h2 := hO.fit.dn b e hb he
  have hu : Up O d b := h.sub ho hO _ b d (Nat.le_refl _) hb (.step hd (.refl _))
  obtain ⟨e', h3, h4⟩ := hu.inv fun hh => by subst hh; omega
  rw [he] at h3; cases h3
  refine ⟨h4.le hO.fit h2.1, fun heq => ?_⟩
  exact ho.inj d e h1.1 h2.1 heq

/-- Where a round changed nothing: what is above is what one can't go round. -/
theorem Whole.final (ho : Ord E pl pr) (h : Whole E pl O W) (hO : Inv E pl pr O) (heq : ∀ b, Rch E b → W b = O b) {b c : Nat} (hb : Rch E b) : Up W c b ↔ ¬ Av E c b := by
  refine ⟨fun hu hav => ?_, fun hav => h.s ho (.inr hO) _ b c (Nat.le_refl _) hb hav⟩
  induction hav with
  | zero hc => exact hc (hu.zero h.z)
  | @step a b ha hE hne ih =>
    have hb0 : b ≠ 0 := fun h0 => by subst h0; exact hne (hu.zero h.z).symm
    have hlt := hu.lt h.fit hb (Ne.symm hne)
    have hmix : ∀ x, Rch E x → mix pl O W (pl b) x = W x := fun x hx => by
      unfold mix; split
      · rfl
      · exact (heq x hx).symm
    have key : ∀ {x : Nat}, Rch E x → Up (mix pl O W (pl b)) c x → Up W c x := fun {x} hx hux => by
      induction hux with
      | refl => exact .refl _
      | step h1 _ ih2 =>
        rw [hmix _ hx] at h1
        exact .step h1 (ih2 (h.fit.dn _ _ hx h1).1)
    have hra := ha.rch
    refine ih hra (key hra ((h.ch b hb hb0 c hlt).1 hu a hra hE ?_))
    by_cases hab : pl a < pl b
    · exact .inl hab
    · refine .inr (hO.all a hra fun h0 => ?_)
      subst h0; rw [ho.pl0] at hab; omega

end
end Go.Dm
