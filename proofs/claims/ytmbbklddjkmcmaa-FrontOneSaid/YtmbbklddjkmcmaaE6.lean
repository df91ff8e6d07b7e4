/- front: Placed, the plain law. -/
import Derived.Test.YtmbbklddjkmcmaaE5
namespace Go.Proofs.Ytmbbklddjkmcmaa
set_option linter.unusedSimpArgs false
set_option linter.unusedVariables false
open Go Go.Fw Go.Dm

/-- What is placed for a set: all that the frontiers lead to. -/
inductive Pl (F : Nat → Nat → Prop) (S : Nat → Prop) : Nat → Prop
  | base {b c : Nat} : S b → F b c → Pl F S c
  | step {b c : Nat} : Pl F S b → F b c → Pl F S c

theorem Pl.mono {F : Nat → Nat → Prop} {S S' : Nat → Prop} (h : ∀ b, S b → S' b) {c : Nat} (hc : Pl F S c) : Pl F S' c := by
  induction hc with
  | base h1 h2 => exact .base (h _ h1) h2
  | step _ h2 ih => exact .step ih h2

/-- Between two steps: what is still to be done, and what is there. -/
structure PcI (F : Nat → Nat → Prop) (S : Nat → Prop) (n : Nat) (cur : Nat → Prop) (todo out : List Int) : Prop where
  nd : out.Nodup
  od : ∀ v ∈ out, ∃ c : Nat, v = c ∧ Pl F S c
  td : ∀ v ∈ todo, ∃ b : Nat, v = b ∧ b < n ∧ (S b ∨ Pl F S b)
  cl : ∀ b : Nat, b < n → (S b ∨ (b : Int) ∈ out) → (b : Int) ∈ todo ∨ cur b ∨ ∀ c : Nat, F b c → (c : Int) ∈ out

section
variable {F : Nat → Nat → Prop} {S : Nat → Prop} {n : Nat} {cur : Nat → Prop} {todo out : List Int} {b c : Nat}

theorem PcI.push (h : PcI F S n cur todo out) (hc : Pl F S c) (hn : c < n) (hnew : (c : Int) ∉ out) : PcI F S n cur (todo ++ [(c : Int)]) (out ++ [(c : Int)]) where
  nd := by
    rw [List.nodup_append]
    refine ⟨h.nd, by simp, fun a ha b hb => ?_⟩
    rw [List.mem_singleton] at hb
    rintro rfl
    rw [hb] at ha
    exact hnew ha
  od := fun v hv => by
    rcases List.mem_append.1 hv with h1 | h1
    · exact h.od v h1
    · exact ⟨c, List.mem_singleton.1 h1, hc⟩
  td := fun v hv => by
    rcases List.mem_append.1 hv with h1 | h1
    · exact h.td v h1
    · exact ⟨c, List.mem_singleton.1 h1, hn, .inr hc⟩
  cl := fun b hb hs => by
    have key : (S b ∨ (b : Int) ∈ out) ∨ b = c := by
      rcases hs with h1 | h1
      · exact .inl (.inl h1)
      · rcases List.mem_append.1 h1 with h2 | h2
        · exact .inl (.inr h2)
        · right
          have := List.mem_singleton.1 h2
          omega
    rcases key with h1 | rfl
    · rcases h.cl b hb h1 with h2 | h2 | h2
      · exact .inl (List.mem_append.2 (.inl h2))
      · exact .inr (.inl h2)
      · exact .inr (.inr fun c' hc' => List.mem_append.2 (.inl (h2 c' hc')))
    · exact .inl (by simp)

theorem PcI.pop (h : PcI F S n (fun _ => False) (todo ++ [(b : Int)]) out) : PcI F S n (· = b) todo out where
  nd := h.nd
  od := h.od
  td := fun v hv => h.td v (List.mem_append.2 (.inl hv))
  cl := fun b' hb hs => by
    rcases h.cl b' hb hs with h1 | h1 | h1
    · rcases List.mem_append.1 h1 with h2 | h2
      · exact .inl h2
      · right; left
        have := List.mem_singleton.1 h2
        omega
    · exact absurd h1 id
    · exact .inr (.inr h1)

theorem PcI.close (h : PcI F S n (· = b) todo out) (hb : ∀ c, F b c → (c : Int) ∈ out) : PcI F S n (fun _ => False) todo out where
  nd := h.nd
  od := h.od
  td := h.td
  cl := fun b' hb' hs => by
    rcases h.cl b' hb' hs with h1 | rfl | h1
    · exact .inl h1
    · exact .inr (.inr hb)
    · exact .inr (.inr h1)

theorem PcI.done (h : PcI F S n (fun _ => False) [] out) (hF : ∀ b c, F b c → b < n ∧ c < n) (v : Int) : v ∈ out ↔ ∃ c : Nat, v = c ∧ Pl F S c := by
  constructor
  · exact h.od v
  · rintro ⟨c, rfl, hc⟩
    induction hc with
    | base h1 h2 =>
      rcases h.cl _ (hF _ _ h2).1 (.inl h1) with h3 | h3 | h3
      · simp at h3
      · exact absurd h3 id
      · exact h3 _ h2
    | step _ h2 ih =>
      rcases h.cl _ (hF _ _ h2).1 (.inr ih) with h3 | h3 | h3
      · simp at h3
      · exact absurd h3 id
      · exact h3 _ h2

theorem Pl.lt (hF : ∀ b c, F b c → b < n ∧ c < n) (h : Pl F S c) : c < n := by
  cases h with
  | base _ h2 => exact (hF _ _ h2).2
  | step _ h2 => exact (hF _ _ h2).2

theorem PcI.len (h : PcI F S n cur todo out) (hF : ∀ b c, F b c → b < n ∧ c < n) : out.length ≤ n := by
  have h1 := sort_set (n := n) (S := fun c => (c : Int) ∈ out) h.nd (fun v => ⟨fun hv => by
    obtain ⟨c, rfl, _⟩ := h.od v hv
    exact ⟨c, rfl, hv⟩, fun ⟨c, h1, h2⟩ => by rw [h1]; exact h2⟩) (fun c hc => by
    obtain ⟨c', h1, h2⟩ := h.od _ hc
    have := h2.lt hF
    omega)
  have h2 := congrArg List.length h1
  have h3 := setL_len (n := n) (S := fun c => (c : Int) ∈ out)
  simp [natI] at h2
  omega
end

section
variable {g : List RowV}

theorem FrG.src {E : Nat → Nat → Prop} {b c : Nat} (h : FrG E b c) : Rch E b := by
  obtain ⟨⟨p, h1, h2, h3⟩, h6⟩ := h
  refine Classical.byContradiction fun hb => h3 ?_
  clear h3 h6 h1
  induction h2 with
  | zero => exact .zero fun h => hb (by rw [h]; exact .zero)
  | step h4 h5 ih => exact .step ih h5 fun h => hb (by rw [← h]; exact .step h4 h5)
theorem FrG.dst {E : Nat → Nat → Prop} {b c : Nat} (h : FrG E b c) : Rch E c := by
  obtain ⟨⟨p, h1, h2, _⟩, _⟩ := h
  exact .step h2 h1
theorem rch_lt (hin : InG g) (h0 : 0 < g.length) {b : Nat} (h : Rch (Edge g) b) : b < g.length := by
  cases h with
  | zero => exact h0
  | step _ h2 =>
    obtain ⟨r, h1, h2⟩ := h2
    have := hin r (List.mem_of_getElem? h1) _ h2
    omega
theorem frG_in (hin : InG g) (h0 : 0 < g.length) (b c : Nat) (h : FrG (Edge g) b c) : b < g.length ∧ c < g.length := ⟨rch_lt hin h0 h.src, h.lt hin⟩

/-- Placed of a set. -/
noncomputable def plG (g : List RowV) (ls : List Int) : List Nat := if mayG g = true then setL g.length (Pl (FrG (Edge g)) fun b => (b : Int) ∈ ls) else []
end

end Go.Proofs.Ytmbbklddjkmcmaa
