/- dom, the plain law: a tree's blocks in their order. -/
import Derived.Test.YtmbbklddjkmcmaaD2
namespace Go.Dm
set_option linter.unusedSimpArgs false
set_option linter.unusedVariables false

/-- A block, and all below it, each ahead of its kids. -/
def pre (kids : Nat → List Nat) : Nat → Nat → List Nat
  | 0, _ => []
  | m + 1, b => b :: (kids b).flatMap (pre kids m)

/-- The kids are those whose next one above it is. -/
structure KidsOk (E : Nat → Nat → Prop) (nx : Nat → Option Nat) (kids : Nat → List Nat) : Prop where
  mem : ∀ b c, c ∈ kids b ↔ nx c = some b
  nodup : ∀ b, (kids b).Nodup
  un : ∀ x, ¬ Rch E x → nx x = none

section
variable {E : Nat → Nat → Prop} {pl : Nat → Nat} {nx : Nat → Option Nat} {kids : Nat → List Nat} {n b c x m : Nat}

theorem KidsOk.rch (h : KidsOk E nx kids) (hc : nx c = some b) : Rch E c := by
  by_cases hr : Rch E c
  · exact hr
  · rw [h.un c hr] at hc; cases hc

theorem up_kid (h : Up nx b x) (hne : x ≠ b) : ∃ c, nx c = some b ∧ Up nx c x := by
  induction h with
  | refl => exact absurd rfl hne
  | @step y d h1 h2 ih =>
    by_cases hd : d = b
    · subst hd; exact ⟨y, h1, .refl _⟩
    · obtain ⟨c, h3, h4⟩ := ih hd
      exact ⟨c, h3, .step h1 h4⟩

theorem pre_mem (hf : Fit E pl nx) (hk : KidsOk E nx kids) (hn : ∀ x, Rch E x → pl x < n) : ∀ (m b : Nat), Rch E b → n ≤ pl b + m → ∀ x, x ∈ pre kids m b ↔ Up nx b x
  | 0, b, hb, hm, x => by have := hn b hb; omega
  | m + 1, b, hb, hm, x => by
    simp only [pre, List.mem_cons, List.mem_flatMap]
    constructor
    · rintro (rfl | ⟨c, hc, hx⟩)
      · exact .refl _
      · have hc' := (hk.mem b c).1 hc
        have hrc := hk.rch hc'
        have := hf.dn c b hrc hc'
        exact (Up.step hc' (.refl _)).trans ((pre_mem hf hk hn m c hrc (by omega) x).1 hx)
    · intro hu
      by_cases hne : x = b
      · exact .inl hne
      · obtain ⟨c, hc, hx⟩ := up_kid hu hne
        have hrc := hk.rch hc
        have := hf.dn c b hrc hc
        exact .inr ⟨c, (hk.mem b c).2 hc, (pre_mem hf hk hn m c hrc (by omega) x).2 hx⟩

theorem below_rch (hk : KidsOk E nx kids) (hb : Rch E b) (h : Up nx b x) : Rch E x := by
  cases h with
  | refl => exact hb
  | step h1 _ => exact hk.rch h1

theorem pre_nodup (hf : Fit E pl nx) (hk : KidsOk E nx kids) (hn : ∀ x, Rch E x → pl x < n) (hinj : ∀ a b, Rch E a → Rch E b → pl a = pl b → a = b) : ∀ (m b : Nat), Rch E b → n ≤ pl b + m → (pre kids m b).Nodup
  | 0, b, hb, hm => by have := hn b hb; omega
  | m + 1, b, hb, hm => by
    have hkid : ∀ c, c ∈ kids b → Rch E c ∧ pl b < pl c ∧ nx c = some b := fun c hc => by
      have hc' := (hk.mem b c).1 hc
      have hrc := hk.rch hc'
      exact ⟨hrc, (hf.dn c b hrc hc').2.1, hc'⟩
    have hmem : ∀ c, c ∈ kids b → ∀ x, x ∈ pre kids m c ↔ Up nx c x := fun c hc x => by
      obtain ⟨h1, h2, _⟩ := hkid c hc
      exact pre_mem hf hk hn m c h1 (by omega) x
    simp only [pre, List.nodup_cons]
    refine ⟨fun hb' => ?_, ?_⟩
    · obtain ⟨c, hc, hx⟩ := List.mem_flatMap.1 hb'
      have h1 := ((hmem c hc b).1 hx).le hf hb
      have := hkid c hc
      omega
    · unfold List.Nodup
      rw [List.pairwise_flatMap]
      refine ⟨fun c hc => ?_, ?_⟩
      · obtain ⟨h1, h2, _⟩ := hkid c hc
        exact pre_nodup hf hk hn hinj m c h1 (by omega)
      · refine List.Pairwise.imp_of_mem ?_ (hk.nodup b)
        intro c c' hc hc' hne x hx y hy hxy
        subst hxy
        have u1 := (hmem c hc x).1 hx
        have u2 := (hmem c' hc' x).1 hy
        obtain ⟨r1, p1, n1⟩ := hkid c hc
        obtain ⟨r2, p2, n2⟩ := hkid c' hc'
        have hrx := below_rch hk r1 u1
        have no : ∀ {p q : Nat}, Rch E p → Rch E q → pl b < pl p → nx q = some b → p ≠ q → ¬ Up nx p q := fun {p q} hp hq hlt hnq hpq hu => by
          obtain ⟨d, h1, h2⟩ := hu.inv hpq
          rw [hnq] at h1; cases h1
          have := h2.le hf hb
          omega
        rcases Nat.le_total (pl c) (pl c') with hle | hle
        · exact no r1 r2 p1 n2 hne (u1.linear hf u2 hrx hle)
        · exact no r2 r1 p2 n1 (Ne.symm hne) (u2.linear hf u1 hrx hle)

theorem pre_first : ∀ (m b x : Nat) (p s : List Nat), (∀ b c, c ∈ kids b → nx c = some b) → pre kids m b = p ++ x :: s → (p = [] ∧ x = b) ∨ ∃ y ∈ p, nx x = some y
  | 0, b, x, p, s, hk, h => by simp [pre] at h
  | m + 1, b, x, p, s, hk, h => by
    have key : ∀ (ks : List Nat) (p : List Nat), (∀ c ∈ ks, nx c = some b) → ks.flatMap (pre kids m) = p ++ x :: s → nx x = some b ∨ ∃ y ∈ p, nx x = some y := by
      intro ks
      induction ks with
      | nil => intro p _ h; simp at h
      | cons c ks ih =>
        intro p hks h
        rw [List.flatMap_cons] at h
        rcases List.append_eq_append_iff.1 h with ⟨p', h1, h2⟩ | ⟨s', h1, h2⟩
        · subst h1
          rcases ih p' (fun c hc => hks c (by simp [hc])) h2 with h3 | ⟨y, h3, h4⟩
          · exact .inl h3
          · exact .inr ⟨y, by simp [h3], h4⟩
        · cases s' with
          | nil =>
            rw [List.append_nil] at h1
            rcases ih [] (fun c hc => hks c (by simp [hc])) (by simpa using h2.symm) with h3 | ⟨y, h3, _⟩
            · exact .inl h3
            · simp at h3
          | cons z s' =>
            rw [List.cons_append] at h2
            obtain ⟨rfl, h2⟩ := List.cons.inj h2
            rcases pre_first m c x p s' hk h1 with ⟨_, rfl⟩ | h3
            · exact .inl (hks x (by simp))
            · exact .inr h3
    simp only [pre] at h
    cases p with
    | nil => simp at h; exact .inl ⟨rfl, h.1.symm⟩
    | cons y p =>
      rw [List.cons_append] at h
      obtain ⟨rfl, h'⟩ := List.cons.inj h
      rcases key (kids b) p (fun c hc => hk b c hc) h' with h1 | ⟨y, h1, h2⟩
      · exact .inr ⟨b, by simp, h1⟩
      · exact .inr ⟨y, by simp [h1], h2⟩

end
end Go.Dm
