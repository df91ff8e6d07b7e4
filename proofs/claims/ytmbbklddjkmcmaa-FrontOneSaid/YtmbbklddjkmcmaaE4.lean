/- front: Of, whole. -/
import Derived.Test.YtmbbklddjkmcmaaE3
namespace Go.Proofs.Ytmbbklddjkmcmaa
set_option linter.unusedSimpArgs false
set_option linter.unusedVariables false
open Go Go.Fw Go.Dm

/-- A block's frontier, by the graph alone. -/
def FrG (E : Nat → Nat → Prop) (b c : Nat) : Prop := (∃ p, E p c ∧ Rch E p ∧ ¬ Av E b p) ∧ (b = c ∨ Av E b c)
noncomputable def frG (g : List RowV) (b : Nat) : List Nat := setL g.length (FrG (Edge g) b)

section
variable {x : GraphV} {g : List RowV} {L : List Int} {bs : List Nat} {A : Nat → AV} {H : AHeap} {N : Nat} {fs : List Fr} {Q : Post}

theorem ab_av (hT : TreeOk g L bs) {a b : Nat} : abI L bs (a : Int) (b : Int) = true ↔ Rch (Edge g) b ∧ ¬ Av (Edge g) a b := by
  rw [ab_iff hT]
  simp only [Int.toNat_natCast]
  constructor
  · rintro ⟨_, _, h1, h2⟩
    exact ⟨h1, (hT.sol.dom b a h1).1 h2⟩
  · rintro ⟨h1, h2⟩
    exact ⟨by omega, by omega, h1, (hT.sol.dom b a h1).2 h2⟩
theorem frB_iff (hT : TreeOk g L bs) {b c : Nat} : FrB g L bs b c ↔ FrG (Edge g) b c := by
  unfold FrB FrG DfW strictI
  constructor
  · rintro ⟨p, ⟨h1, h2, h3⟩, h4⟩
    refine ⟨⟨p, h4, h1, (hT.sol.dom p b h1).1 h2⟩, ?_⟩
    by_cases hbc : b = c
    · exact .inl hbc
    · right
      have h5 : ((b : Int) ≠ c) := fun h => hbc (by omega)
      simp only [ne_eq, h5, not_false_eq_true, decide_true, Bool.true_and] at h3
      exact Classical.byContradiction fun h6 => by
        rw [(ab_av hT).2 ⟨.step h1 h4, h6⟩] at h3
        simp at h3
  · rintro ⟨⟨p, h1, h2, h3⟩, h4⟩
    refine ⟨p, ⟨h2, (hT.sol.dom p b h2).2 h3, ?_⟩, h1⟩
    rcases h4 with rfl | h4
    · simp
    · have h5 : abI L bs (b : Int) (c : Int) = false := by
        rcases Bool.eq_false_or_eq_true (abI L bs (b : Int) (c : Int)) with h | h
        · exact absurd h4 ((ab_av hT).1 h).2
        · exact h
      simp [h5]
theorem FrG.lt (hin : InG g) {b c : Nat} (h : FrG (Edge g) b c) : c < g.length := by
  obtain ⟨⟨p, ⟨r, h1, h2⟩, _⟩, _⟩ := h
  have := hin r (List.mem_of_getElem? h1) _ h2
  omega

theorem may_in (hm : mayG g = true) : InG g ∧ 0 < g.length := by
  simp [mayG] at hm
  obtain ⟨h1, h2, h3⟩ := hm
  refine ⟨fun r hr v hv => ?_, by omega⟩
  have := h3 r hr v hv
  simp [outG] at this
  omega

/-- What 'Of' hands out, written over by whoever has it. -/
theorem a_frOf (x : GraphV) (hx : x.Ok) (hn : x.g.length ≤ 100) (he : edges x.g ≤ 10000) (hm : mayG x.g = true) (H : AHeap) (N : Nat) :
    ACall Try.prog 34 [x.av] H N (fun r H' N' => ∃ o cs, r = .ms o 0 x.g.length 1 ∧ FrR H' x.g.length o (frG x.g) cs) := by
  obtain ⟨hin, h00⟩ := may_in hm
  refine acallF mixed c_front_Of (by simp) fun hF => ?_
  have hl := x.len
  have hmk : amake 1 24 [.sl .nil 0 []] (i64 x.g.length) (i64 x.g.length) = some (x.g.length, x.g.length) := by
    simp [amake]; omega
  have hrep : (List.replicate x.g.length [AV.sl .nil 0 []]).flatten = List.replicate x.g.length (AV.sl .nil 0 []) := by simp
  simp [a_front_Of]
  refine (p_Of x hx (by omega)).acall ?_
  intro r hr
  rw [if_pos hm] at hr
  obtain ⟨L, bs, hT, rfl⟩ := hr
  have hst : astore (H.set N (.blk [.lit (.pointer none)])) 1 (.mp N 0) (treeV x.g.length L bs) = some (H.set N (.blk [treeV x.g.length L bs])) := by simp [astore, treeV, set_set]
  simp [hst, hl, hmk, hrep, -alen, -astore]
  have hZ : FrZ (((H.set N (.blk [treeV x.g.length L bs]))).set (N + 1) (.blk (List.replicate x.g.length (AV.sl .nil 0 [])))) (N + 1 + 1) N (N + 1) (treeV x.g.length L bs) (List.replicate x.g.length []) (List.replicate x.g.length (AV.sl .nil 0 [])) := by
    refine ⟨(hF.set _).set _, by simp, ?_, by omega⟩
    exact RowsAt.start _ (by simp) (by omega)
  have hW : FrW x.g L bs (List.replicate x.g.length []) (WayS x.g L bs 0 0) 0 := by
    refine ⟨by simp, fun b l hb v => ?_, fun l hl => ?_⟩
    · rw [List.eq_of_mem_replicate (List.mem_of_getElem? hb)]
      simp [WayS, WayP]
    · rw [List.eq_of_mem_replicate hl]; simp
  refine fr_all (o := N + 1) (T := N) hx hn he hT hin ?_ ?_ ?_ ?_ ?_ hZ hW ?_
  · simp
  · simp
  · simp
  · simp
  · simp
  intro A2 H2 N2 w2 cs2 e5 hZ2 hW2
  have hlen : w2.length = x.g.length := hW2.len
  simp [e5, -aload]
  refine fr_sort (o := N + 1) (n := x.g.length) (fr := frG x.g) (w := w2) (cs := cs2) hn hlen (fun l hl => by have := hW2.short l hl; omega) (fun b l hb => ?_) ?_ ?_ ?_ hZ2.rows ?_
  · refine compact_set (S := FrG (Edge x.g) b) (fun v => ?_) fun c hc => hc.lt hin
    rw [hW2.mem b l hb v]
    constructor
    · rintro ⟨c, h1, p, h2⟩
      rw [way_end] at h2
      exact ⟨c, h1, (frB_iff hT).1 ⟨p, h2⟩⟩
    · rintro ⟨c, h1, h2⟩
      obtain ⟨p, h3⟩ := (frB_iff hT).2 h2
      exact ⟨c, h1, p, (way_end _ _ _).2 h3⟩
  · simp [e5]
  · simp
  · simp
  intro A3 H3 N3 cs3 e5' hR _ _
  simp [e5']
  exact ⟨cs3, hR⟩

theorem chunks_ints (z : List Int) : ∀ l : List Int, chunks 1 l.length ((l ++ z).map i64) = intCells l
  | [] => rfl
  | a :: l => by
    have ih := chunks_ints z l
    simp only [List.length_cons, chunks, List.cons_append, List.map_cons, List.take_succ_cons, List.take_zero, List.drop_succ_cons, List.drop_zero, ih]
    rfl
theorem SlAt.view {v : AV} {l : List Int} (h : SlAt H v l) : View H v (bsl (.sl .nil 0 []) 1 (intCells l)) := by
  rcases h with ⟨rfl, rfl⟩ | ⟨hne, i, z, rfl, h1⟩
  · exact .free rfl
  · have := View.ms' (H := H) (id := i) (len := l.length) (sz := 1) h1 (by simp) (ViewL.refl (freeL_ints _))
    rw [chunks_ints] at this
    cases l with
    | nil => exact absurd rfl hne
    | cons a l => exact this

/-- What 'Of' hands out, as values. -/
noncomputable def frW (g : List RowV) : List (List Int) := (List.range g.length).map fun b => natI (frG g b)
theorem frW_len : (frW g).length = g.length := by simp [frW]
theorem frW_at {b : Nat} (hb : b < g.length) : (frW g)[b]? = some (natI (frG g b)) := by simp [frW, hb]
theorem FrR.view {o : Nat} {cs : List AV} (h : FrR H g.length o (frG g) cs) : View H (.ms o 0 g.length 1) (.sl .any 1 (rowsV (frW g))) := by
  have hv : ViewL H cs ((frW g).map fun l => bsl (.sl .nil 0 []) 1 (intCells l)) := by
    refine ⟨by rw [h.len, List.length_map, frW_len], fun i c d hc hd => ?_⟩
    have hi : i < g.length := by rw [← h.len]; exact (List.getElem?_eq_some_iff.1 hc).1
    rw [List.getElem?_map, frW_at hi] at hd
    cases hd
    exact (h.row i c hc).view
  have := View.ms' (H := H) (sz := 1) (len := g.length) h.at_ (by rw [h.len]; omega) hv
  rw [rowsV_flat] at this
  have h2 : chunks 1 g.length (rowsV (frW g)).flatten = rowsV (frW g) := by
    have := Go.Fw.chunks_flatten (sz := 1) (es := rowsV (frW g)) (fun y hy => by simp [rowsV] at hy; obtain ⟨_, _, rfl⟩ := hy; rfl)
    rw [rowsV_len, frW_len] at this
    exact this
  rw [h2] at this
  exact this

/-- A graph's frontiers, as they are handed out. -/
noncomputable def frV (g : List RowV) : AV := if mayG g = true then .sl .any 1 (rowsV (frW g)) else .sl .nil 0 []

theorem p_frOf (x : GraphV) (hx : x.Ok) (hn : x.g.length ≤ 100) (he : edges x.g ≤ 10000) : PCall Try.prog 34 [x.av] (frV x.g) := by
  by_cases hm : mayG x.g = true
  · refine PCall.of fun N => (a_frOf x hx hn he hm noHeap N).mono ?_
    rintro r H' N' ⟨o, cs, rfl, hR⟩
    simp only [frV, hm, if_true]
    exact hR.view
  · refine PCall.of fun N => acall mixed c_front_Of (by simp) ?_
    simp [a_front_Of]
    refine (p_Of x hx (by omega)).acall ?_
    intro r hr
    rw [if_neg hm] at hr
    subst hr
    simp
    simp only [frV, hm, if_false]
    exact .free rfl

end
end Go.Proofs.Ytmbbklddjkmcmaa
