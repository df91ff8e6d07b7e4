/- front: frontiers of a given graph, reckoned; is; works. -/
import Derived.Test.YtmbbklddjkmcmaaE8
namespace Go.Proofs.Ytmbbklddjkmcmaa
set_option linter.unusedSimpArgs false
set_option linter.unusedVariables false
open Go Go.Fw Go.Dm

def rowL (g : List RowV) (a : Nat) : List Int := match g[a]? with
  | some r => r.l
  | none => []
theorem rowL_edge {g : List RowV} {a c : Nat} : Edge g a c ↔ (c : Int) ∈ rowL g a := by
  unfold Edge rowL
  cases h : g[a]? with
  | none => simp
  | some r => simp

/-- One step on: all to which one comes from these, but b. -/
def stepA (g : List RowV) (b : Nat) (l : List Nat) : List Nat := (List.range g.length).filter fun c => (c != b) && ((c == 0) || l.any fun a => (rowL g a).contains (c : Int))
def iterA (g : List RowV) (b : Nat) : Nat → List Nat
  | 0 => []
  | k + 1 => stepA g b (iterA g b k)
def avL (g : List RowV) (b : Nat) : List Nat := iterA g b (g.length + 1)
theorem stepA_mem {g : List RowV} {b : Nat} {l : List Nat} {c : Nat} : c ∈ stepA g b l ↔ c < g.length ∧ c ≠ b ∧ (c = 0 ∨ ∃ a ∈ l, Edge g a c) := by
  simp [stepA, rowL_edge]
theorem iterA_av {g : List RowV} {b : Nat} : ∀ (k c : Nat), c ∈ iterA g b k → Av (Edge g) b c
  | 0, c, h => by simp [iterA] at h
  | k + 1, c, h => by
    obtain ⟨_, h1, h2⟩ := stepA_mem.1 h
    rcases h2 with rfl | ⟨a, h2, h3⟩
    · exact .zero (Ne.symm h1)
    · exact .step (iterA_av k a h2) h3 h1
theorem avL_iff {g : List RowV} {b : Nat} (hin : InG g) (h0 : 0 < g.length) (hfix : stepA g b (avL g b) = avL g b) (c : Nat) : Av (Edge g) b c ↔ c ∈ avL g b := by
  refine ⟨fun h => ?_, iterA_av _ c⟩
  induction h with
  | zero h =>
    rw [← hfix]
    exact stepA_mem.2 ⟨h0, Ne.symm h, .inl rfl⟩
  | step h1 h2 h3 ih =>
    rw [← hfix]
    refine stepA_mem.2 ⟨?_, h3, .inr ⟨_, ih, h2⟩⟩
    obtain ⟨r, h4, h5⟩ := h2
    have := hin r (List.mem_of_getElem? h4) _ h5
    omega
theorem rch_av {g : List RowV} (hin : InG g) (h0 : 0 < g.length) {c : Nat} : Rch (Edge g) c ↔ Av (Edge g) g.length c := by
  refine ⟨fun h => ?_, Av.rch⟩
  induction h with
  | zero => exact .zero (by omega)
  | step h1 h2 ih =>
    refine .step ih h2 ?_
    obtain ⟨r, h4, h5⟩ := h2
    have := hin r (List.mem_of_getElem? h4) _ h5
    omega

/-- Whether c is in b's frontier, by these lists. -/
def frE (g : List RowV) (T : List (List Nat)) (b c : Nat) : Bool :=
  ((List.range g.length).any fun p => (rowL g p).contains (c : Int) && ((T.getD g.length []).contains p && !((T.getD b []).contains p))) && ((b == c) || (T.getD b []).contains c)
def avT (g : List RowV) : List (List Nat) := (List.range (g.length + 1)).map fun b => avL g b
/-- Are the lists whole? -/
def okT (g : List RowV) : Bool := mayG g && (List.range (g.length + 1)).all fun b => stepA g b (avL g b) == avL g b
def frR (g : List RowV) (T : List (List Nat)) (b : Nat) : List Nat := (List.range g.length).filter fun c => frE g T b c

theorem frE_iff {g : List RowV} (hok : okT g = true) {b c : Nat} (hb : b < g.length) : frE g (avT g) b c = true ↔ FrG (Edge g) b c := by
  simp only [okT, Bool.and_eq_true, List.all_eq_true, List.mem_range, beq_iff_eq] at hok
  obtain ⟨hm, hfix⟩ := hok
  obtain ⟨hin, h00⟩ := may_in hm
  have hT : ∀ d, d < g.length + 1 → (avT g).getD d [] = avL g d := fun d hd => by simp [avT, List.getD, hd]
  have h1 := fun c => avL_iff hin h00 (hfix b (by omega)) c
  have h2 := fun c => avL_iff hin h00 (hfix g.length (by omega)) c
  unfold FrG frE
  rw [hT b (by omega), hT g.length (by omega)]
  simp only [Bool.and_eq_true, Bool.or_eq_true, List.any_eq_true, List.mem_range, List.contains_iff_mem, Bool.not_eq_true', beq_iff_eq, ← rowL_edge, ← h1, rch_av hin h00, h2]
  constructor
  · rintro ⟨⟨p, h3, h4, h5, h6⟩, h7⟩
    refine ⟨⟨p, h4, h5, fun h => ?_⟩, h7⟩
    rw [h1] at h
    rw [List.contains_iff_mem.2 h] at h6
    simp at h6
  · rintro ⟨⟨p, h3, h4, h5⟩, h7⟩
    refine ⟨⟨p, ?_, h3, h4, ?_⟩, h7⟩
    · obtain ⟨r, h8, _⟩ := h3
      exact (List.getElem?_eq_some_iff.1 h8).1
    · cases h : (avL g b).contains p
      · rfl
      · exact absurd ((h1 p).2 (List.contains_iff_mem.1 h)) h5

theorem setL_filter {n : Nat} {S : Nat → Prop} {p : Nat → Bool} (h : ∀ c, c < n → (p c = true ↔ S c)) : setL n S = (List.range n).filter p := by
  unfold setL
  apply List.filter_congr
  intro c hc
  have := h c (List.mem_range.1 hc)
  by_cases hs : S c
  · rw [this.2 hs]; simp [hs]
  · have hp : p c = false := by
      cases hpc : p c
      · rfl
      · exact absurd (this.1 hpc) hs
    rw [hp]; simp [hs]

theorem frR_eq {g : List RowV} (hok : okT g = true) {b : Nat} (hb : b < g.length) : frG g b = frR g (avT g) b := by
  exact setL_filter fun c _ => frE_iff hok hb

/-- A graph's frontiers. -/
noncomputable def frS (g : List RowV) : List (List Int) := if mayG g = true then frW g else []
def frX (g : List RowV) : List (List Int) := (List.range g.length).map fun b => natI (frR g (avT g) b)
theorem frS_eq {g : List RowV} (hok : okT g = true) : frS g = frX g := by
  have hm : mayG g = true := by
    simp only [okT, Bool.and_eq_true] at hok
    exact hok.1
  simp only [frS, hm, if_true, frW, frX]
  apply List.map_congr_left
  intro b hb
  rw [frR_eq hok (List.mem_range.1 hb)]

/-- Placed, reckoned. -/
def stepP (g : List RowV) (T : List (List Nat)) (ls : List Int) (s : List Nat) : List Nat := (List.range g.length).filter fun c => (List.range g.length).any fun b => (ls.contains (b : Int) || s.contains b) && frE g T b c
def iterP (g : List RowV) (T : List (List Nat)) (ls : List Int) : Nat → List Nat
  | 0 => []
  | k + 1 => stepP g T ls (iterP g T ls k)
def plX (g : List RowV) (ls : List Int) : List Nat := iterP g (avT g) ls (g.length + 1)
theorem stepP_mem {g : List RowV} (hok : okT g = true) {ls : List Int} {s : List Nat} {c : Nat} : c ∈ stepP g (avT g) ls s ↔ c < g.length ∧ ∃ b, b < g.length ∧ ((b : Int) ∈ ls ∨ b ∈ s) ∧ FrG (Edge g) b c := by
  unfold stepP
  rw [List.mem_filter, List.mem_range, List.any_eq_true]
  constructor
  · rintro ⟨h1, b, h2, h3⟩
    rw [Bool.and_eq_true, Bool.or_eq_true, List.contains_iff_mem, List.contains_iff_mem] at h3
    exact ⟨h1, b, List.mem_range.1 h2, h3.1, (frE_iff hok (List.mem_range.1 h2)).1 h3.2⟩
  · rintro ⟨h1, b, h2, h3, h4⟩
    refine ⟨h1, b, List.mem_range.2 h2, ?_⟩
    rw [Bool.and_eq_true, Bool.or_eq_true, List.contains_iff_mem, List.contains_iff_mem]
    exact ⟨h3, (frE_iff hok h2).2 h4⟩
theorem iterP_pl {g : List RowV} (hok : okT g = true) {ls : List Int} : ∀ (k c : Nat), c ∈ iterP g (avT g) ls k → Pl (FrG (Edge g)) (fun b => (b : Int) ∈ ls) c
  | 0, c, h => by simp [iterP] at h
  | k + 1, c, h => by
    obtain ⟨_, b, _, h2, h3⟩ := (stepP_mem hok).1 h
    rcases h2 with h2 | h2
    · exact .base h2 h3
    · exact .step (iterP_pl hok k b h2) h3
theorem plG_eq {g : List RowV} {ls : List Int} (hok : okT g = true) (hfix : stepP g (avT g) ls (plX g ls) = plX g ls) : plG g ls = plX g ls := by
  have hm : mayG g = true := by
    have := hok
    simp only [okT, Bool.and_eq_true] at this
    exact this.1
  obtain ⟨hin, h00⟩ := may_in hm
  have key : ∀ c, Pl (FrG (Edge g)) (fun b => (b : Int) ∈ ls) c ↔ c ∈ plX g ls := fun c => by
    refine ⟨fun h => ?_, iterP_pl hok _ c⟩
    induction h with
    | base h1 h2 =>
      rw [← hfix]
      exact (stepP_mem hok).2 ⟨(frG_in hin h00 _ _ h2).2, _, (frG_in hin h00 _ _ h2).1, .inl h1, h2⟩
    | step h1 h2 ih =>
      rw [← hfix]
      exact (stepP_mem hok).2 ⟨(frG_in hin h00 _ _ h2).2, _, (frG_in hin h00 _ _ h2).1, .inr ih, h2⟩
  simp only [plG, hm, if_true]
  have h2 : setL g.length (Pl (FrG (Edge g)) fun b => (b : Int) ∈ ls) = stepP g (avT g) ls (plX g ls) := by
    refine setL_filter fun c hc => ?_
    rw [key c]
    conv => rhs; rw [← hfix]
    unfold stepP
    rw [List.mem_filter, List.mem_range]
    exact ⟨fun h => ⟨hc, h⟩, fun h => h.2⟩
  rw [h2, hfix]

end Go.Proofs.Ytmbbklddjkmcmaa
