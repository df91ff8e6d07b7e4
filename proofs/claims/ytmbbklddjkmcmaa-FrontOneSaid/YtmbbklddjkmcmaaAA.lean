/- dom: Of. -/
import Derived.Test.YtmbbklddjkmcmaaA9
namespace Go.Proofs.Ytmbbklddjkmcmaa
set_option linter.unusedSimpArgs false
set_option linter.unusedVariables false
open Go Go.Fw Go.Dm

/-- The places of the first j blocks of the row. -/
def plcs (n : Nat) (bs : List Nat) (j : Nat) : List Int := (List.range n).map fun x => if bs.idxOf x < j then ((bs.idxOf x : Nat) : Int) else -1
theorem plcs_len {n : Nat} {bs : List Nat} {j : Nat} : (plcs n bs j).length = n := by simp [plcs]
theorem plcs_at {n : Nat} {bs : List Nat} {j x : Nat} (hx : x < n) : (plcs n bs j)[x]? = some (if bs.idxOf x < j then ((bs.idxOf x : Nat) : Int) else -1) := by
  simp [plcs, hx]
theorem plcs_zero {n : Nat} {bs : List Nat} : plcs n bs 0 = List.replicate n (-1) := by
  apply List.ext_getElem?
  intro i
  by_cases hi : i < n
  · rw [plcs_at hi]; simp [hi]
  · simp [plcs, hi]
theorem plcs_set {n : Nat} {bs : List Nat} {j b : Nat} (hnd : bs.Nodup) (hb : bs[j]? = some b) (hbn : b < n) : (plcs n bs j).set b (j : Int) = plcs n bs (j + 1) := by
  have hib := idx_at hnd hb
  apply List.ext_getElem?
  intro i
  rw [List.getElem?_set]
  by_cases hi : b = i
  · subst hi
    rw [if_pos rfl, if_pos (by rw [plcs_len]; exact hbn), plcs_at hbn, if_pos (by omega), hib]
  · rw [if_neg hi]
    by_cases hin : i < n
    · rw [plcs_at hin, plcs_at hin]
      have hne : bs.idxOf i ≠ j := fun h => by
        have hlt : bs.idxOf i < bs.length := by rw [h]; exact (List.getElem?_eq_some_iff.1 hb).1
        have h1 : bs[bs.idxOf i]? = some i := by rw [List.getElem?_eq_getElem hlt, List.getElem_idxOf hlt]
        rw [h, hb] at h1
        exact hi (Option.some.inj h1)
      have : (bs.idxOf i < j + 1) ↔ (bs.idxOf i < j) := by omega
      simp only [this]
    · simp [plcs, hin]

/-- What is known of a tree. -/
structure TreeOk (g : List RowV) (L : List Int) (bs : List Nat) : Prop where
  row : RowOk g bs
  ll : L.length = g.length
  l : ∀ (x : Nat) (v : Int), L[x]? = some v → v = -1 ∨ 0 ≤ v
  un : ∀ x, ¬ Rch (Edge g) x → nxOf L x = none
  sol : Sol (Edge g) (fun b => bs.idxOf b) (nxOf L)

section
variable {g : List RowV} {bs : List Nat} {pr : Nat → Nat} {L P : List Int} {H : AHeap} {t ni qi b m : Nat} {w : List (List Int)} {A : Nat → AV} {N : Nat} {fs : List Fr} {Q : Post} {v : Int}

theorem Mk.of (hR : RowOk g bs) (ho : Dm.Ord (Edge g) (fun b => bs.idxOf b) pr) (hin : InG g) : Mk g bs pr (List.replicate g.length (-1)) (plcs g.length bs bs.length) where
  row := hR
  ord := ho
  ll := by simp
  lp := plcs_len
  p := fun x hx => by
    have hm := (hR.mem x).2 hx
    have := List.idxOf_lt_length_iff.2 hm
    rw [plcs_at (hR.lt x hm), if_pos this]
  pn := fun x hx hr => by
    rw [plcs_at hx, if_neg]
    intro h
    exact hr ((hR.mem x).1 (List.idxOf_lt_length_iff.1 h))
  l := fun x v hv => .inl (List.eq_of_mem_replicate (List.mem_of_getElem? hv))

def totW (n : Nat) (bs : List Nat) (nx : Nat → Option Nat) : Nat := (bs.map (wt (fun b => bs.idxOf b) n nx)).sum

structure MainI (g : List RowV) (bs : List Nat) (pr : Nat → Nat) (w : List (List Int)) (t ni qi : Nat) (P : List Int) (N k : Nat) (s : St) : Prop where
  ex : ∃ (L : List Int) (ch : Bool), OfC g bs w t s.A ∧ s.A 9 = bl ch ∧ s.N = N ∧ TAt s.H t ni qi L P ∧ Mk g bs pr L P ∧ (∀ x, ¬ Rch (Edge g) x → nxOf L x = none) ∧ Old (Edge g) (fun b => bs.idxOf b) pr (nxOf L) ∧
    (ch = false → Sol (Edge g) (fun b => bs.idxOf b) (nxOf L)) ∧ k = if ch = true then totW g.length bs (nxOf L) + 1 else 0

theorem of_main (hC : OfC g bs w t A) (hT : TAt H t ni qi L P) (hM : Mk g bs pr L P) (hun : ∀ x, ¬ Rch (Edge g) x → nxOf L x = none) (hO : Old (Edge g) (fun b => bs.idxOf b) pr (nxOf L)) (hw : FromOk g w) (hsh : edges g ≤ 1000000000) (hn : g.length ≤ 32768)
    (hk : ∀ A' H' L', A' 4 = .mp t 0 → TAt H' t ni qi L' P → TreeOk g L' bs → onward Try.prog fs Q .normal ⟨A', H', N⟩) : run Try.prog a_Of_main fs Q ⟨A, H, N⟩ := by
  have hR := hM.row
  have ho := hM.ord
  have hpl : ∀ x, Rch (Edge g) x → bs.idxOf x < g.length := fun x hx => by
    have h1 := List.idxOf_lt_length_iff.2 ((hR.mem x).2 hx)
    have := List.Nodup.length_le_of_subset (l₂ := List.range g.length) hR.nodup (fun x hx => List.mem_range.2 (hR.lt x hx))
    simp at this
    omega
  have hbs0 : 0 < bs.length := (List.getElem?_eq_some_iff.1 hR.zero).1
  have hsl : aslice 1 (.sl .any 1 (intCells (natI bs))) (some (i64 1)) none none = some (.sl .any 1 (intCells (natI bs.tail))) := by
    have h1 : (1 : Int) ≤ ((intCells (natI bs)).length : Nat) := by rw [intCells_len, natI_len]; omega
    have h2 : ((intCells (natI bs)).drop 1).take ((intCells (natI bs)).length - 1) = intCells (natI bs.tail) := by
      rw [List.take_of_length_le (by simp)]
      simp [intCells, natI]
    simp [aslice, bnd, askind, h1] at h2 ⊢
    simpa using h2
  have hlen : alen 1 (.sl .any 1 (intCells (natI bs.tail))) = some ((bs.length - 1 : Nat) : Int) := by
    have := (RdSl.sl (H := noHeap) (sz := 1) (es := intCells (natI bs.tail)) .any).len
    rw [intCells_len, natI_len, List.length_tail] at this
    exact this
  simp [a_Of_main]
  refine run_loop (MainI g bs pr w t ni qi P N) (totW g.length bs (nxOf L) + 1) ?_ ?_
  · exact ⟨L, true, ⟨by simp [hC.h4], by simp [hC.h5], by simp [hC.h6]⟩, by simp, rfl, hT, hM, hun, hO, (fun h => by cases h), by simp⟩
  · rintro k A1 H1 N1 ⟨L1, ch, hC1, h9, hNe, hT1, hM1, hun1, hO1, hc0, rfl⟩
    simp only at hC1 h9 hNe hT1
    subst hNe
    cases ch with
    | false =>
      simp [a_dom_Ofb3, h9]
      exact hk _ _ L1 (by simp [hC1.h4]) hT1 ⟨hR, hM1.ll, hM1.l, hun1, hc0 rfl⟩
    | true =>
      simp [a_dom_Ofb3, h9, hC1.h5, hsl, hlen, -alen]
      refine of_round (w := w) (t := t) (ni := ni) (qi := qi) (L := L1) (P := P) ⟨?_, ?_, ?_⟩ ?_ ?_ ?_ ?_ hT1 hM1 hun1 hO1 hw hsh hn ?_
      · exact hC1.h4
      · exact hC1.h5
      · exact hC1.h6
      · rfl
      · rfl
      · rfl
      · rfl
      intro A2 H2 L2 ch hC2 g9 hT2 hM2 hun2 hW hn0 hn1
      simp
      cases ch with
      | false =>
        refine ⟨0, by omega, ⟨L2, false, hC2, g9, rfl, hT2, hM2, hun2, .inr (hW.inv ho hO1), fun _ => hW.sol ho hO1 fun b _ => by rw [hn0 rfl], by simp⟩⟩
      | true =>
        refine ⟨totW g.length bs (nxOf L2) + 1, ?_, ⟨L2, true, hC2, g9, rfl, hT2, hM2, hun2, .inr (hW.inv ho hO1), (fun h => by cases h), by simp⟩⟩
        have hle : ∀ x ∈ bs, wt (fun b => bs.idxOf b) g.length (nxOf L2) x ≤ wt (fun b => bs.idxOf b) g.length (nxOf L1) x := fun x hx => by
          by_cases hx0 : x = 0
          · subst hx0; simp [wt, hW.z, hO1.fit.z]
          · exact (hW.wt_le ho hO1 hpl ((hR.mem x).1 hx) hx0).1
        obtain ⟨x, hx, hx0, hne⟩ := hn1 rfl
        have := sum_lt bs hle ⟨x, (hR.mem x).2 hx, (hW.wt_le ho hO1 hpl hx hx0).2 hne⟩
        unfold totW
        omega

/-- While the places are put. -/
structure PlI (g : List RowV) (bs : List Nat) (w : List (List Int)) (t ni qi : Nat) (L : List Int) (N k : Nat) (s : St) : Prop where
  ex : ∃ j, j ≤ bs.length ∧ k = bs.length - j ∧ OfC g bs w t s.A ∧ s.A 32 = .sl .any 1 (intCells (natI bs)) ∧ s.A 33 = i64 bs.length ∧ s.A 34 = i64 j ∧ s.N = N ∧ TAt s.H t ni qi L (plcs g.length bs j)

theorem of_place (hC : OfC g bs w t A) (hT : TAt H t ni qi L (plcs g.length bs 0)) (hR : RowOk g bs) (hn : g.length ≤ 32768)
    (hk : ∀ A' H', OfC g bs w t A' → TAt H' t ni qi L (plcs g.length bs bs.length) → onward Try.prog fs Q .normal ⟨A', H', N⟩) : run Try.prog a_Of_place fs Q ⟨A, H, N⟩ := by
  have hlen : alen 1 (.sl .any 1 (intCells (natI bs))) = some (bs.length : Int) := by
    have := (RdSl.sl (H := noHeap) (sz := 1) (es := intCells (natI bs)) .any).len
    rw [intCells_len, natI_len] at this
    exact this
  have hbl : bs.length ≤ g.length := by
    have := List.Nodup.length_le_of_subset (l₂ := List.range g.length) hR.nodup (fun x hx => List.mem_range.2 (hR.lt x hx))
    simpa using this
  simp [a_Of_place, hC.h5, hlen, -alen]
  refine run_loop (PlI g bs w t ni qi L N) bs.length ?_ ?_
  · exact ⟨0, by omega, by omega, ⟨by simp [hC.h4], by simp [hC.h5], by simp [hC.h6]⟩, by simp, by simp, by simp, rfl, hT⟩
  · rintro k A1 H1 N1 ⟨j, hj, rfl, hC1, e32, e33, e34, hNe, hT1⟩
    simp only at hC1 e32 e33 e34 hNe hT1
    subst hNe
    by_cases hjl : j = bs.length
    · subst hjl
      simp [a_dom_Ofb4, e33, e34]
      exact hk _ _ ⟨by simp [hC1.h4], by simp [hC1.h5], by simp [hC1.h6]⟩ hT1
    · have hlt : j < bs.length := by omega
      obtain ⟨b, hb⟩ : ∃ b, bs[j]? = some b := ⟨_, List.getElem?_eq_getElem hlt⟩
      have hbg : b < g.length := hR.lt b (List.mem_of_getElem? hb)
      have hq : aindex 1 (.sl .any 1 (intCells (natI bs))) (i64 j) = some (.ip [i64 b] 0) := by
        refine aindex_sl (by omega) ?_
        simp [intCells, natI, hb]
      have ht := hT1.t
      have hp := hT1.p
      have hLn : L.length = g.length := by rw [← hT1.len, plcs_len]
      have ip : aindex 1 (.ms qi 0 L.length 1) (i64 b) = some (.mp qi b) := by simp [aindex, hLn, hbg]
      have ld1 : aload H1 false 1 (.mp t 1) = some (.ms qi 0 L.length 1) := by simp [aload, apart, ht]
      have ldq : aload H1 false 1 (.ip [i64 b] 0) = some (i64 b) := rfl
      have hst : astore H1 1 (.mp qi b) (i64 j) = some (H1.set qi (.blk ((plcs g.length bs (j + 1)).map i64))) := by
        rw [← plcs_set hR.nodup hb hbg]
        simp [astore, hp, plcs_len, show b + 1 ≤ g.length by omega, List.map_set]
      have wr : IntKind.i64.wrap ((j : Int) + 1) = ((j + 1 : Nat) : Int) := by rw [wrap_i64 (by omega) (by omega)]; rfl
      have hq0 := hT1.tn (by omega : 0 < L.length)
      simp [a_dom_Ofb4, e32, e33, e34, hlt, hq, hC1.h4, ld1, ldq, ip, hst, wr, -aload, -astore]
      refine ⟨bs.length - (j + 1), by omega, ⟨j + 1, by omega, rfl, ⟨by simp [hC1.h4], by simp [hC1.h5], by simp [hC1.h6]⟩, by simp [e32], by simp [e33], by simp, rfl, ⟨?_, ?_, ?_, ?_, hT1.ne⟩⟩⟩
      · simp [hq0.2, ht]
      · simp [hT1.ne, hT1.n]
      · simp
      · simp [plcs_len, hLn]

/-- A tree, as a value. -/
def treeV (n : Nat) (L : List Int) (bs : List Nat) : AV := .ip [.sl .any 1 (intCells L), .sl .any 1 (intCells (plcs n bs bs.length))] 0

theorem p_Of (x : GraphV) (hx : x.Ok) (he : edges x.g ≤ 1000000000) :
    PCallS Try.prog 16 [x.av] (fun r => if mayG x.g = true then ∃ L bs, TreeOk x.g L bs ∧ r = .tup [treeV x.g.length L bs, i64 0] else r = .tup [.lit (.pointer none), i64 4]) := by
  refine PCallS.of fun N => acallF mixed c_dom_Of (by simp) fun hF => ?_
  unfold a_dom_Of
  obtain ⟨_, ep⟩ : ∃ c, a_Of_place = c := ⟨_, rfl⟩
  rw [ep]
  obtain ⟨_, em⟩ : ∃ c, a_Of_main = c := ⟨_, rfl⟩
  rw [em]
  simp
  refine (p_may x hx).acall ?_
  by_cases hm : mayG x.g = true
  · have hm' := hm
    simp [mayG] at hm'
    obtain ⟨h0, hn, hall⟩ := hm'
    have hin : InG x.g := fun r hr v hv => by
      have := hall r hr v hv
      simp [outG] at this
      exact this
    have hl := x.len
    have hrep : ∀ k : Nat, (List.replicate k (i64 (-1))) = (List.replicate k (-1 : Int)).map i64 := fun k => by simp
    simp [hm, hl, -alen]
    refine (a_Repeat (-1) x.g.length h0 (by omega) _ _).mono ?_
    rintro r H1 N1 ⟨rfl, rfl, rfl⟩
    simp [hl, -alen]
    refine (a_Repeat (-1) x.g.length h0 (by omega) _ _).mono ?_
    rintro r H1 N1 ⟨rfl, rfl, rfl⟩
    simp [-alen]
    refine (p_row x hx hin h0 hn).acall ?_
    rintro r ⟨bs, rfl, hR⟩
    simp
    refine (p_from x hx hin h0 hn he).acall ?_
    rintro r ⟨w, rfl, hw⟩
    simp
    obtain ⟨pr, ho⟩ := hR.ord
    have hT : TAt (((noHeap.set N (.blk (List.replicate x.g.length (i64 (-1))))).set (N + 1) (.blk (List.replicate x.g.length (i64 (-1))))).set (N + 1 + 1) (.blk [.ms N 0 x.g.length 1, .ms (N + 1) 0 x.g.length 1])) (N + 1 + 1) N (N + 1) (List.replicate x.g.length (-1)) (plcs x.g.length bs 0) := by
      refine ⟨by simp, ?_, ?_, by simp [plcs_len], by omega⟩
      · simp [show N ≠ N + 1 + 1 by omega]
      · simp [plcs_zero]
    rw [← ep]
    refine of_place (bs := bs) (w := w) ⟨?_, ?_, ?_⟩ hT hR hn ?_
    · rfl
    · rfl
    · rfl
    intro A1 H1 hC1 hT1
    simp
    rw [← em]
    have hnone : ∀ y, nxOf (List.replicate x.g.length (-1)) y = none := fun y => by
      by_cases hy : y < x.g.length
      · exact nxOf_minus (by simp [hy])
      · unfold nxOf; simp [hy]
    refine of_main hC1 hT1 (Mk.of hR ho hin) (fun y _ => hnone y) (.inl hnone) hw he hn ?_
    intro A2 H2 L h4 hT2 hOk
    simp [h4]
    refine ⟨_, ?_, L, bs, hOk, rfl⟩
    have hLn : L.length = x.g.length := hOk.ll
    have v1 := view_ints (l := L) hT2.n (by omega)
    have v2 := view_ints (l := plcs x.g.length bs bs.length) hT2.p (by rw [plcs_len]; omega)
    rw [plcs_len, ← hLn] at v2
    have vl := ViewL.cons v1 (.cons v2 .nil)
    have vp := View.mp (off := 0) hT2.t vl.1 vl.2
    rw [hLn] at vp
    exact View.tup' (.cons vp (.cons (.free rfl) .nil))
  · simp [hm]
    exact .free rfl

end
end Go.Proofs.Ytmbbklddjkmcmaa
