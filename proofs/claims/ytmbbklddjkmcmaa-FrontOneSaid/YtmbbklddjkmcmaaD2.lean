/- dom, the plain law: a round block by block; what is left when nothing changes; why rounds end. -/
import Derived.Test.YtmbbklddjkmcmaaD1
namespace Go.Dm
set_option linter.unusedSimpArgs false
set_option linter.unusedVariables false

section
variable {E : Nat → Nat → Prop} {pl pr : Nat → Nat} {nx nx' O W : Nat → Option Nat} {a b c d p q i : Nat}

theorem Up.same (hcl : ∀ b d, Rch E b → nx b = some d → Rch E d) (hsame : ∀ x, Rch E x → nx' x = nx x) (h : Up nx c b) (hb : Rch E b) : Up nx' c b := by
  induction h with
  | refl => exact .refl _
  | step h1 _ ih => exact .step ((hsame _ hb).trans h1) (ih (hcl _ _ hb h1))

/-- A round, up to place i. -/
structure Part (E : Nat → Nat → Prop) (pl : Nat → Nat) (O nx : Nat → Option Nat) (i : Nat) : Prop where
  z : nx 0 = none
  old : ∀ x, Rch E x → i ≤ pl x → nx x = O x
  dn : ∀ b, Rch E b → b ≠ 0 → pl b < i → ∃ d, nx b = some d ∧ Rch E d ∧ pl d < pl b
  ch : ∀ b, Rch E b → b ≠ 0 → pl b < i → ∀ c, pl c < pl b → (Up nx c b ↔ ∀ p, Rch E p → E p b → (pl p < pl b ∨ ∃ d, O p = some d) → Up (mix pl O nx (pl b)) c p)

/-- Old next ones: none, or of a whole round. -/
def Old (E : Nat → Nat → Prop) (pl pr : Nat → Nat) (O : Nat → Option Nat) : Prop := (∀ x, O x = none) ∨ Inv E pl pr O

theorem Old.fit (hO : Old E pl pr O) : Fit E pl O := by
  rcases hO with h | h
  · exact ⟨h 0, fun b d _ hd => by rw [h b] at hd; cases hd⟩
  · exact h.fit

theorem Part.start (ho : Ord E pl pr) (hO : Old E pl pr O) : Part E pl O O 1 where
  z := hO.fit.z
  old := fun _ _ _ => rfl
  dn := fun b hb hb0 hlt => absurd (ho.inj b 0 hb .zero (by rw [ho.pl0]; omega)) hb0
  ch := fun b hb hb0 hlt => absurd (ho.inj b 0 hb .zero (by rw [ho.pl0]; omega)) hb0

theorem Part.fit (hO : Old E pl pr O) (h : Part E pl O nx i) : Fit E pl nx := by
  refine ⟨h.z, fun b d hb hd => ?_⟩
  have hb0 : b ≠ 0 := fun h0 => by rw [h0, h.z] at hd; cases hd
  have defd : ∀ d, Rch E d → pl d < i → d = 0 ∨ ∃ e, nx d = some e := fun d hrd hlt => by
    by_cases hd0 : d = 0
    · exact .inl hd0
    · obtain ⟨e, he, _⟩ := h.dn d hrd hd0 hlt; exact .inr ⟨e, he⟩
  by_cases hbi : pl b < i
  · obtain ⟨d', h1, h2, h3⟩ := h.dn b hb hb0 hbi
    rw [hd] at h1; cases h1
    exact ⟨h2, h3, defd d h2 (by omega)⟩
  · rw [h.old b hb (by omega)] at hd
    obtain ⟨h1, h2, h3⟩ := hO.fit.dn b d hb hd
    refine ⟨h1, h2, ?_⟩
    by_cases hdi : pl d < i
    · exact defd d h1 hdi
    · rw [h.old d h1 (by omega)]; exact h3

/-- What block b at place i gets: what lies above all that lead to it and have a next one (or are 0). -/
def Glb (E : Nat → Nat → Prop) (nx : Nat → Option Nat) (b d : Nat) : Prop := ∀ c, Up nx c d ↔ ∀ p, Rch E p → E p b → (p = 0 ∨ ∃ e, nx p = some e) → Up nx c p

def put (nx : Nat → Option Nat) (b d : Nat) : Nat → Option Nat := fun x => if x = b then some d else nx x
theorem put_ne {x : Nat} (h : x ≠ b) : put nx b d x = nx x := by simp [put, h]
theorem put_eq : put nx b d b = some d := by simp [put]

theorem Part.step (ho : Ord E pl pr) (hO : Old E pl pr O) (h : Part E pl O nx i) (hb : Rch E b) (hb0 : b ≠ 0) (hi : pl b = i) (hd : Rch E d) (hdb : pl d < pl b) (hg : Glb E nx b d) : Part E pl O (put nx b d) (i + 1) := by
  have hne : ∀ x, Rch E x → pl x ≠ i → x ≠ b := fun x _ h1 h2 => by subst h2; exact h1 hi
  have hfit := h.fit hO
  have hi0 : 0 < i := by
    rcases Nat.eq_zero_or_pos i with h0 | h0
    · exact absurd (ho.inj b 0 hb .zero (by rw [ho.pl0, hi, h0])) hb0
    · exact h0
  have low : ∀ {x c : Nat}, Rch E x → pl x < i → (Up (put nx b d) c x ↔ Up nx c x) := fun {x c} hx hlt => by
    constructor
    · intro hu
      induction hu with
      | refl => exact .refl _
      | step h1 _ ih =>
        rw [put_ne (hne _ hx (by omega))] at h1
        have := hfit.dn _ _ hx h1
        exact .step h1 (ih this.1 (by omega))
    · intro hu
      exact Up.congr hfit (i := i) (fun y hy hyi => put_ne (hne y hy (by omega))) hu hx hlt
  have clmix : ∀ j, j ≤ i → ∀ x e, Rch E x → mix pl O nx j x = some e → Rch E e := fun j hj x e hx he => by
    unfold mix at he; split at he
    · exact (hfit.dn x e hx he).1
    · exact (hO.fit.dn x e hx he).1
  refine ⟨by rw [put_ne (Ne.symm hb0)]; exact h.z, fun x hx hxi => ?_, fun x hx hx0 hxi => ?_, fun x hx hx0 hxi c hc => ?_⟩
  · rw [put_ne (hne x hx (by omega))]; exact h.old x hx (by omega)
  · by_cases hxb : x = b
    · subst hxb; exact ⟨d, put_eq, hd, hdb⟩
    · have hlt : pl x < i := by
        rcases Nat.lt_or_ge (pl x) i with h1 | h1
        · exact h1
        · exact absurd (ho.inj x b hx hb (by omega)) hxb
      rw [put_ne hxb]; exact h.dn x hx hx0 hlt
  · by_cases hxb : x = b
    · subst hxb
      have h1 : Up (put nx x d) c x ↔ Up nx c d := by
        constructor
        · intro hu
          obtain ⟨e, h2, h3⟩ := hu.inv fun he => by subst he; omega
          rw [put_eq] at h2; cases h2
          exact (low hd (by omega)).1 h3
        · intro hu
          exact .step put_eq ((low hd (by omega)).2 hu)
      have hmix : ∀ y, Rch E y → mix pl O (put nx x d) (pl x) y = nx y := fun y hy => by
        unfold mix; split
        · exact put_ne (hne y hy (by omega))
        · exact (h.old y hy (by omega)).symm
      have hcl : ∀ y e, Rch E y → nx y = some e → Rch E e := fun y e hy he => (hfit.dn y e hy he).1
      have hdef : ∀ p, Rch E p → ((pl p < pl x ∨ ∃ e, O p = some e) ↔ (p = 0 ∨ ∃ e, nx p = some e)) := fun p hp => by
        by_cases hp0 : p = 0
        · subst hp0; simp [ho.pl0]; omega
        · by_cases hpi : pl p < i
          · obtain ⟨e, he, _⟩ := h.dn p hp hp0 hpi
            simp [hp0, he]; omega
          · rw [h.old p hp (by omega)]; simp [hp0]; omega
      rw [h1, hg c]
      constructor
      · intro hall p hp hE hdf
        exact Up.same hcl hmix (hall p hp hE ((hdef p hp).1 hdf)) hp
      · intro hall p hp hE hdf
        have := hall p hp hE ((hdef p hp).2 hdf)
        exact Up.same (nx := mix pl O (put nx x d) (pl x)) (fun y e hy he => hcl y e hy (by rw [← hmix y hy]; exact he)) (fun y hy => (hmix y hy).symm) this hp
    · have hlt : pl x < i := by
        rcases Nat.lt_or_ge (pl x) i with h1 | h1
        · exact h1
        · exact absurd (ho.inj x b hx hb (by omega)) hxb
      rw [low hx hlt, h.ch x hx hx0 hlt c hc]
      have hmix : ∀ y, Rch E y → mix pl O (put nx b d) (pl x) y = mix pl O nx (pl x) y := fun y hy => by
        unfold mix; split
        · exact put_ne (hne y hy (by omega))
        · rfl
      constructor
      · intro hall p hp hE hdf
        exact Up.same (clmix _ (by omega)) hmix (hall p hp hE hdf) hp
      · intro hall p hp hE hdf
        exact Up.same (fun y e hy he => clmix (pl x) (by omega) y e hy (by rw [← hmix y hy]; exact he)) (fun y hy => (hmix y hy).symm) (hall p hp hE hdf) hp

theorem Part.whole (h : Part E pl O nx i) (hi : ∀ x, Rch E x → pl x < i) : Whole E pl O nx where
  z := h.z
  dn := fun b hb hb0 => h.dn b hb hb0 (hi b hb)
  ch := fun b hb hb0 => h.ch b hb hb0 (hi b hb)

/-- What the rounds come to. -/
structure Sol (E : Nat → Nat → Prop) (pl : Nat → Nat) (W : Nat → Option Nat) : Prop where
  fit : Fit E pl W
  all : ∀ b, Rch E b → b ≠ 0 → ∃ d, W b = some d
  dom : ∀ b c, Rch E b → (Up W c b ↔ ¬ Av E c b)

theorem Whole.sol (ho : Ord E pl pr) (h : Whole E pl O W) (hO : Old E pl pr O) (heq : ∀ b, Rch E b → W b = O b) : Sol E pl W := by
  refine ⟨h.fit, fun b hb hb0 => ?_, fun b c hb => ?_⟩
  · obtain ⟨d, hd, _⟩ := h.dn b hb hb0; exact ⟨d, hd⟩
  · rcases hO with hO | hO
    · have h0 : ∀ b, Rch E b → b = 0 := fun b hb => by
        by_cases hb0 : b = 0
        · exact hb0
        · obtain ⟨d, hd, _⟩ := h.dn b hb hb0
          rw [heq b hb, hO b] at hd; cases hd
      obtain rfl := h0 b hb
      constructor
      · intro hu hav
        obtain rfl := hu.zero h.z
        cases hav with
        | zero hc => exact hc rfl
        | step _ _ hne => exact hne rfl
      · intro hav
        by_cases hc : c = 0
        · subst hc; exact .refl _
        · exact absurd (.zero hc) hav
    · exact h.final ho hO heq hb

/-- What falls from round to round. -/
def wt (pl : Nat → Nat) (n : Nat) (nx : Nat → Option Nat) (b : Nat) : Nat := match nx b with
  | some d => pl d
  | none => n

theorem Whole.wt_le (ho : Ord E pl pr) (h : Whole E pl O W) (hO : Old E pl pr O) {n : Nat} (hn : ∀ x, Rch E x → pl x < n) {b : Nat} (hb : Rch E b) (hb0 : b ≠ 0) : wt pl n W b ≤ wt pl n O b ∧ (W b ≠ O b → wt pl n W b < wt pl n O b) := by
  obtain ⟨d, hd, hrd, hlt⟩ := h.dn b hb hb0
  rcases hO with hO | hO
  · have := hn d hrd
    simp only [wt, hd, hO b]
    exact ⟨by omega, fun _ => this⟩
  · obtain ⟨e, he⟩ := hO.all b hb hb0
    obtain ⟨h1, h2⟩ := h.less ho hO hb hd he
    simp only [wt, hd, he]
    refine ⟨h1, fun hne => ?_⟩
    rcases Nat.lt_or_ge (pl d) (pl e) with h3 | h3
    · exact h3
    · exact absurd (by rw [h2 (by omega)]) hne

theorem sum_le {f g : Nat → Nat} : ∀ (l : List Nat), (∀ x ∈ l, f x ≤ g x) → (l.map f).sum ≤ (l.map g).sum
  | [], _ => Nat.le_refl _
  | x :: l, h => by
    have h1 := h x (by simp)
    have h2 := sum_le l fun y hy => h y (by simp [hy])
    simp only [List.map_cons, List.sum_cons]; omega
theorem sum_lt {f g : Nat → Nat} : ∀ (l : List Nat), (∀ x ∈ l, f x ≤ g x) → (∃ x ∈ l, f x < g x) → (l.map f).sum < (l.map g).sum
  | [], _, h => by obtain ⟨x, hx, _⟩ := h; simp at hx
  | x :: l, h, hex => by
    have h1 := h x (by simp)
    have h2 := sum_le l fun y hy => h y (by simp [hy])
    simp only [List.map_cons, List.sum_cons]
    obtain ⟨y, hy, hlt⟩ := hex
    rcases List.mem_cons.1 hy with rfl | hy
    · omega
    · have := sum_lt l (fun z hz => h z (by simp [hz])) ⟨y, hy, hlt⟩
      omega

end
end Go.Dm
