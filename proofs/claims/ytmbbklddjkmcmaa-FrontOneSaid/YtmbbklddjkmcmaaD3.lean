/- dom, the plain law: what a walk in depth leaves: a row in which each block but the first has one ahead of it from which one comes to it. -/
import Derived.Test.YtmbbklddjkmcmaaD2
namespace Go.Dm
set_option linter.unusedSimpArgs false
set_option linter.unusedVariables false

/-- From a to b by ways. -/
inductive Path (E : Nat → Nat → Prop) : Nat → Nat → Prop
  | refl (a : Nat) : Path E a a
  | step {a b c : Nat} : Path E a b → E b c → Path E a c

theorem Path.trans {E : Nat → Nat → Prop} {a b c : Nat} (h : Path E a b) (k : Path E b c) : Path E a c := by
  induction k with
  | refl => exact h
  | step _ he ih => exact .step ih he

theorem Path.rch {E : Nat → Nat → Prop} {a b : Nat} (h : Path E a b) (ha : Rch E a) : Rch E b := by
  induction h with
  | refl => exact ha
  | step _ he ih => exact .step ih he

section
variable {E : Nat → Nat → Prop} {seen seen' seen2 : List Bool} {acc new l : List Nat} {b c : Nat}

/-- What was newly seen. -/
structure Dfs (E : Nat → Nat → Prop) (seen seen' : List Bool) (new : List Nat) : Prop where
  len : seen'.length = seen.length
  mem : ∀ x : Nat, seen'[x]? = some true ↔ (seen[x]? = some true ∨ x ∈ new)
  nodup : new.Nodup
  fresh : ∀ x ∈ new, seen[x]? = some false
  cl : ∀ x ∈ new, ∀ c, E x c → seen'[c]? = some true

/-- Each has one behind it, or the root, from which one comes to it. -/
def Later (E : Nat → Nat → Prop) (r : Nat) (new : List Nat) : Prop := ∀ (i x : Nat), new[i]? = some x → (∃ j y, i < j ∧ new[j]? = some y ∧ E y x) ∨ E r x

/-- What a visit leaves. -/
def Visit (E : Nat → Nat → Prop) (b : Nat) (seen seen' : List Bool) (new : List Nat) : Prop := ∃ l, new = l ++ [b] ∧ Dfs E seen seen' new ∧ Later E b l ∧ ∀ x ∈ l, Path E b x

/-- While a visit goes over the ways of b. -/
structure Going (E : Nat → Nat → Prop) (b : Nat) (seen seen' : List Bool) (acc : List Nat) : Prop where
  dfs : Dfs E seen seen' acc
  later : Later E b acc
  path : ∀ x ∈ acc, Path E b x

theorem Going.start : Going E b seen seen [] :=
  ⟨⟨rfl, fun x => by simp, by simp, fun x hx => by simp at hx, fun x hx => by simp at hx⟩, fun i x h => by simp at h, fun x hx => by simp at hx⟩

theorem Going.keep (h : Going E b seen seen' acc) {x : Nat} (hx : seen[x]? = some true) : seen'[x]? = some true := (h.dfs.mem x).2 (.inl hx)

theorem Going.child (h : Going E b seen seen' acc) (hE : E b c) (hv : Visit E c seen' seen2 new) : Going E b seen seen2 (acc ++ new) := by
  obtain ⟨l, rfl, hd, hl, hp⟩ := hv
  refine ⟨⟨hd.len.trans h.dfs.len, fun x => ?_, ?_, fun x hx => ?_, fun x hx c' hc' => ?_⟩, fun i x hi => ?_, fun x hx => ?_⟩
  · rw [hd.mem, h.dfs.mem, show x ∈ acc ++ (l ++ [c]) ↔ x ∈ acc ∨ x ∈ l ++ [c] from List.mem_append]
    exact or_assoc
  · refine List.nodup_append.2 ⟨h.dfs.nodup, hd.nodup, fun x hx y hy he => ?_⟩
    subst he
    have h1 := (h.dfs.mem x).2 (.inr hx)
    have h2 := hd.fresh x hy
    rw [h1] at h2; cases h2
  · rcases List.mem_append.1 hx with h1 | h1
    · exact h.dfs.fresh x h1
    · have h2 := hd.fresh x h1
      have h3 : ¬ seen[x]? = some true := fun h3 => by rw [h.keep h3] at h2; cases h2
      have hlt : x < seen.length := by
        have := (List.getElem?_eq_some_iff.1 h2).1
        rw [← h.dfs.len]; exact this
      rw [List.getElem?_eq_getElem hlt] at h3 ⊢
      cases hb : seen[x] with
      | true => rw [hb] at h3; exact absurd rfl h3
      | false => rfl
  · rcases List.mem_append.1 hx with h1 | h1
    · exact (hd.mem c').2 (.inl (h.dfs.cl x h1 c' hc'))
    · exact hd.cl x h1 c' hc'
  · rcases Nat.lt_or_ge i acc.length with h1 | h1
    · rw [List.getElem?_append_left h1] at hi
      rcases h.later i x hi with ⟨j, y, h2, h3, h4⟩ | h2
      · have hj : j < acc.length := (List.getElem?_eq_some_iff.1 h3).1
        exact .inl ⟨j, y, h2, by rw [List.getElem?_append_left hj]; exact h3, h4⟩
      · exact .inr h2
    · rw [List.getElem?_append_right h1] at hi
      rcases Nat.lt_or_ge (i - acc.length) l.length with h2 | h2
      · rw [List.getElem?_append_left h2] at hi
        rcases hl _ x hi with ⟨j, y, h3, h4, h5⟩ | h3
        · have hj : j < l.length := (List.getElem?_eq_some_iff.1 h4).1
          refine .inl ⟨acc.length + j, y, by omega, ?_, h5⟩
          rw [List.getElem?_append_right (by omega), show acc.length + j - acc.length = j by omega, List.getElem?_append_left hj]
          exact h4
        · refine .inl ⟨acc.length + l.length, c, by omega, ?_, h3⟩
          rw [List.getElem?_append_right (by omega), show acc.length + l.length - acc.length = l.length by omega, List.getElem?_append_right (by omega)]
          simp
      · rw [List.getElem?_append_right h2] at hi
        have : x = c := by
          have hlt := (List.getElem?_eq_some_iff.1 hi).1
          simp at hlt
          simp [hlt] at hi
          exact hi.symm
        subst this
        exact .inr hE
  · rcases List.mem_append.1 hx with h1 | h1
    · exact h.path x h1
    · have hbc : Path E b c := .step (.refl _) hE
      rcases List.mem_append.1 h1 with h2 | h2
      · exact hbc.trans (hp x h2)
      · rw [List.mem_singleton.1 h2]; exact hbc

theorem Going.done (hb : seen[b]? = some false) (h : Going E b (seen.set b true) seen' acc) (hall : ∀ c, E b c → seen'[c]? = some true) : Visit E b seen seen' (acc ++ [b]) := by
  have hlt : b < seen.length := (List.getElem?_eq_some_iff.1 hb).1
  have hset : ∀ x : Nat, (seen.set b true)[x]? = some true ↔ (seen[x]? = some true ∨ x = b) := fun x => by
    rw [List.getElem?_set]
    by_cases hxb : b = x
    · subst hxb; simp [hlt]
    · simp [hxb, Ne.symm hxb]
  refine ⟨acc, rfl, ⟨by rw [h.dfs.len, List.length_set], fun x => ?_, ?_, fun x hx => ?_, fun x hx c hc => ?_⟩, h.later, h.path⟩
  · rw [h.dfs.mem, hset, List.mem_append, List.mem_singleton]
    constructor
    · rintro ((h1 | h1) | h1)
      · exact .inl h1
      · exact .inr (.inr h1)
      · exact .inr (.inl h1)
    · rintro (h1 | h1 | h1)
      · exact .inl (.inl h1)
      · exact .inr h1
      · exact .inl (.inr h1)
  · refine List.nodup_append.2 ⟨h.dfs.nodup, by simp, fun x hx y hy he => ?_⟩
    subst he
    rw [List.mem_singleton] at hy
    subst hy
    have h1 := h.dfs.fresh x hx
    rw [(hset x).2 (.inr rfl)] at h1
    cases h1
  · rcases List.mem_append.1 hx with h1 | h1
    · have h2 := h.dfs.fresh x h1
      rw [List.getElem?_set] at h2
      split at h2
      · first | (cases h2; done) | (split at h2 <;> cases h2)
      · exact h2
    · rw [List.mem_singleton.1 h1]; exact hb
  · rcases List.mem_append.1 hx with h1 | h1
    · exact h.dfs.cl x h1 c hc
    · rw [List.mem_singleton.1 h1] at hc; exact hall c hc

/-- How many are not seen. -/
def unseen (seen : List Bool) : Nat := seen.count false

theorem unseen_set : ∀ {seen : List Bool} {b : Nat}, seen[b]? = some false → unseen (seen.set b true) + 1 = unseen seen
  | [], b, h => by simp at h
  | s :: seen, 0, h => by
    simp at h; subst h
    simp [unseen]
  | s :: seen, b + 1, h => by
    have := unseen_set (seen := seen) (b := b) (by simpa using h)
    simp only [unseen, List.set_cons_succ, List.count_cons] at this ⊢
    omega

theorem unseen_le : ∀ {seen seen' : List Bool}, seen'.length = seen.length → (∀ x : Nat, seen[x]? = some true → seen'[x]? = some true) → unseen seen' ≤ unseen seen
  | [], [], _, _ => Nat.le_refl _
  | s :: seen, s' :: seen', hl, h => by
    have ih := unseen_le (seen := seen) (seen' := seen') (by simpa using hl) (fun x hx => by have := h (x + 1) (by simpa using hx); simpa using this)
    have h0 := h 0
    simp only [unseen, List.count_cons] at ih ⊢
    cases s <;> cases s' <;> simp_all
    omega
  | [], _ :: _, hl, _ => by simp at hl
  | _ :: _, [], hl, _ => by simp at hl

/-- The row: the visit's, turned about. -/
theorem visit_ord {n : Nat} (h : Visit E 0 (List.replicate n false) seen' new) (hn : ∀ x c, E x c → c < n) (hn0 : 0 < n) :
    (∀ x, x ∈ new ↔ Rch E x) ∧ new.Nodup ∧ new.reverse[0]? = some 0 ∧ (∀ x ∈ new, x < n) ∧ ∃ pr, Ord E (fun b => new.reverse.idxOf b) pr := by
  obtain ⟨l, rfl, hd, hl, hp⟩ := h
  have hmem : ∀ x, x ∈ l ++ [0] ↔ Rch E x := fun x => by
    constructor
    · intro hx
      rcases List.mem_append.1 hx with h1 | h1
      · exact (hp x h1).rch .zero
      · rw [List.mem_singleton.1 h1]; exact .zero
    · intro hx
      induction hx with
      | zero => simp
      | @step a b _ he ih =>
        have h1 := hd.cl a ih b he
        rcases (hd.mem b).1 h1 with h2 | h2
        · have hlt := hn a b he
          rw [List.getElem?_replicate] at h2
          split at h2 <;> cases h2
        · exact h2
  have hrev : (l ++ [0]).reverse = 0 :: l.reverse := by simp
  have hnr : (l ++ [0]).reverse.Nodup := (List.reverse_perm _).nodup_iff.2 hd.nodup
  have hidx : ∀ b, b ∈ l ++ [0] → (l ++ [0]).reverse[(l ++ [0]).reverse.idxOf b]? = some b := fun b hb => by
    have hlt : (l ++ [0]).reverse.idxOf b < (l ++ [0]).reverse.length := List.idxOf_lt_length_iff.2 (List.mem_reverse.2 hb)
    rw [List.getElem?_eq_getElem hlt, List.getElem_idxOf hlt]
  refine ⟨hmem, hd.nodup, by rw [hrev]; rfl, fun x hx => ?_, ?_⟩
  · have := hd.fresh x hx
    have := (List.getElem?_eq_some_iff.1 this).1
    simpa using this
  · have hpar : ∀ b, ∃ p, Rch E b → b ≠ 0 → Rch E p ∧ E p b ∧ (l ++ [0]).reverse.idxOf p < (l ++ [0]).reverse.idxOf b := fun b => by
      by_cases hb : Rch E b ∧ b ≠ 0
      · obtain ⟨hb, hb0⟩ := hb
        have hbl : b ∈ l := by
          rcases List.mem_append.1 ((hmem b).2 hb) with h1 | h1
          · exact h1
          · exact absurd (List.mem_singleton.1 h1) hb0
        obtain ⟨i, hi, hib⟩ := List.getElem_of_mem hbl
        have hib' : l[i]? = some b := by rw [List.getElem?_eq_getElem hi, hib]
        -- places from behind
        have place : ∀ (k y : Nat), (l ++ [0])[k]? = some y → (l ++ [0]).reverse.idxOf y + k = l.length := fun k y hk => by
          have hklt : k < (l ++ [0]).length := (List.getElem?_eq_some_iff.1 hk).1
          simp at hklt
          have h1 : (l ++ [0]).reverse[l.length - k]? = some y := by
            rw [List.getElem?_reverse (by simp; omega)]
            simp only [List.length_append, List.length_cons, List.length_nil]
            rw [show l.length + (0 + 1) - 1 - (l.length - k) = k by omega]
            exact hk
          have hym : y ∈ l ++ [0] := List.mem_of_getElem? hk
          have h2 := hidx y hym
          have h3 : (l ++ [0]).reverse.idxOf y < (l ++ [0]).reverse.length := (List.getElem?_eq_some_iff.1 h2).1
          have h4 := (List.getElem?_inj h3 hnr).1 (h2.trans h1.symm)
          omega
        have pb := place i b (by rw [List.getElem?_append_left hi]; exact hib')
        rcases hl i b hib' with ⟨j, y, hij, hj, hE⟩ | hE
        · have hjl : j < l.length := (List.getElem?_eq_some_iff.1 hj).1
          have py := place j y (by rw [List.getElem?_append_left hjl]; exact hj)
          exact ⟨y, fun _ _ => ⟨(hmem y).1 (List.mem_append_left _ (List.mem_of_getElem? hj)), hE, by omega⟩⟩
        · have p0 := place l.length 0 (by simp)
          exact ⟨0, fun _ _ => ⟨.zero, hE, by omega⟩⟩
      · exact ⟨0, fun h1 h2 => absurd ⟨h1, h2⟩ hb⟩
    refine ⟨fun b => (hpar b).choose, ?_, fun a b ha hb he => ?_, fun b hb hb0 => (hpar b).choose_spec hb hb0⟩
    · simp only [hrev]; simp
    · have h1 := hidx a ((hmem a).2 ha)
      have h2 := hidx b ((hmem b).2 hb)
      have he : (l ++ [0]).reverse.idxOf a = (l ++ [0]).reverse.idxOf b := he
      rw [he] at h1
      rw [h1] at h2
      exact Option.some.inj h2
end
end Go.Dm
