/- front: Placed, whole. -/
import Derived.Test.YtmbbklddjkmcmaaE7
namespace Go.Proofs.Ytmbbklddjkmcmaa
set_option linter.unusedSimpArgs false
set_option linter.unusedVariables false
open Go Go.Fw Go.Dm

section
variable {x : GraphV} {A : Nat → AV} {H H0 : AHeap} {N N0 : Nat} {fs : List Fr} {Q : Post} {v vt vo fv : AV} {l tl ol ls : List Int} {w : List (List Int)} {S : Nat → Prop}

/-- Over a block's frontier. -/
structure PwR (H0 : AHeap) (N0 : Nat) (fv : AV) (w : List (List Int)) (S : Nat → Prop) (C M b : Nat) (l : List Int) (k : Nat) (s : St) : Prop where
  ex : ∃ (j : Nat) (vt vo : AV) (tl ol : List Int), k = l.length - j ∧ j ≤ l.length ∧ s.A 5 = fv ∧ s.A 6 = vt ∧ s.A 7 = vo ∧ s.A 52 = rv l ∧ s.A 53 = i64 l.length ∧ s.A 54 = i64 j ∧ PH H0 N0 s.H s.N vt vo tl ol ∧ PcI (FB w) S w.length (· = b) tl ol ∧ tl.length ≤ C + ol.length ∧ tl.length + 2 * (w.length - ol.length) < M ∧ ∀ v ∈ l.take j, v ∈ ol

theorem placed_row (hW : Rows fv w) {C M b : Nat} (hC : C ≤ 2000) (hb : w[b]? = some l) (hS : S b ∨ Pl (FB w) S b) (h5 : A 5 = fv) (h6 : A 6 = vt) (h7 : A 7 = vo) (h52 : A 52 = rv l) (h53 : A 53 = i64 l.length) (h54 : A 54 = i64 0)
    (hP : PH H0 N0 H N vt vo tl ol) (hI : PcI (FB w) S w.length (· = b) tl ol) (hc : tl.length ≤ C + ol.length) (hm : tl.length + 2 * (w.length - ol.length) < M)
    (hk : ∀ (A' : Nat → AV) (H' : AHeap) (N' : Nat) (vt' vo' : AV) (tl' ol' : List Int), A' 5 = fv → A' 6 = vt' → A' 7 = vo' → PH H0 N0 H' N' vt' vo' tl' ol' → PcI (FB w) S w.length (fun _ => False) tl' ol' → tl'.length ≤ C + ol'.length → tl'.length + 2 * (w.length - ol'.length) < M →
      onward Try.prog fs Q (.exit 4) ⟨A', H', N'⟩) : run Try.prog (.loop a_front_Placedb1) fs Q ⟨A, H, N⟩ := by
  have hlw := hW.ok l (List.mem_of_getElem? hb)
  have hwn := hW.n
  refine run_loop (PwR H0 N0 fv w S C M b l) l.length ?_ ?_
  · exact ⟨0, vt, vo, tl, ol, by omega, by omega, h5, h6, h7, h52, h53, h54, hP, hI, hc, hm, by simp⟩
  · rintro k A1 H1 N1 ⟨j, vt1, vo1, tl1, ol1, hk', hj, e5, e6, e7, e52, e53, e54, hP1, hI1, hc1, hm1, hd⟩
    simp only at e5 e6 e7 e52 e53 e54 hP1
    by_cases hjl : j = l.length
    · subst hjl
      rw [List.take_length] at hd
      simp [a_front_Placedb1, e53, e54]
      refine hk _ _ _ vt1 vo1 tl1 ol1 (by simp [e5]) (by simp [e6]) (by simp [e7]) hP1 (hI1.close fun c hcF => ?_) hc1 hm1
      obtain ⟨l', h1, h2⟩ := hcF
      rw [hb] at h1; cases h1
      exact hd _ h2
    · have hlt : j < l.length := by omega
      obtain ⟨p, hp, pp⟩ := (rv_rd l H1).at (intCells_sz l) (intCells_at hlt)
      have lp := pp.one
      have wr : IntKind.i64.wrap ((j : Int) + 1) = ((j + 1 : Nat) : Int) := by rw [wrap_i64 (by omega) (by omega)]; rfl
      have hol := hI1.len hW.lt
      obtain ⟨c, hcv⟩ : ∃ c : Nat, l[j] = (c : Int) := ⟨l[j].toNat, by have := hlw.2 _ (List.getElem_mem hlt); omega⟩
      have hcn : c < w.length := by have := hlw.2 _ (List.getElem_mem hlt); omega
      have hcF : FB w b c := ⟨l, hb, by rw [← hcv]; exact List.getElem_mem hlt⟩
      have hcP : Pl (FB w) S c := hS.elim (fun h => .base h hcF) fun h => .step h hcF
      rw [hcv] at lp
      simp [a_front_Placedb1, e5, e6, e7, e52, e53, e54, hlt, hp, lp, -aload, -alen]
      refine (p_Contains hP1.o.t.rd (by unfold maxLen; omega) (c : Int) N1).mono ?_
      rintro r H2 N2 ⟨rfl, hH2, hN2⟩
      rw [hH2, hN2]
      by_cases hin : (c : Int) ∈ ol1
      · simp [hin, wr, e54]
        refine ⟨l.length - (j + 1), by omega, ⟨j + 1, vt1, vo1, tl1, ol1, rfl, by omega, by simp [e5], by simp [e6], by simp [e7], by simp [e52], by simp [e53], by simp, hP1, hI1, hc1, hm1, fun v hv => ?_⟩⟩
        rw [Go.Fw.take_next hlt, List.mem_append, List.mem_singleton, hcv] at hv
        exact hv.elim (hd v) fun h => by rw [h]; exact hin
      · have hI2 := hI1.push hcP hcn hin
        have hol2 := hI2.len hW.lt
        rw [List.length_append, List.length_singleton] at hol2
        obtain ⟨H3, hap3, hP3⟩ := hP1.push_o (by omega) (c : Int)
        obtain ⟨H4, hap4, hP4⟩ := hP3.push_t (by omega) (c : Int)
        simp [hin, e6, e7, e54, hap3, hap4, wr]
        refine ⟨l.length - (j + 1), by omega, ⟨j + 1, .ms (N1 + 1) 0 (tl1.length + 1) 1, .ms N1 0 (ol1.length + 1) 1, tl1 ++ [(c : Int)], ol1 ++ [(c : Int)], rfl, by omega, by simp [e5], by simp, by simp, by simp [e52], by simp [e53], by simp, hP4, hI2, ?_, ?_, fun v hv => ?_⟩⟩
        · simp; omega
        · simp; omega
        · rw [Go.Fw.take_next hlt, List.mem_append, List.mem_singleton, hcv] at hv
          exact List.mem_append.2 (hv.imp (hd v) fun h => by rw [h]; simp)

/-- While there is something to be done. -/
structure PwT (H0 : AHeap) (N0 : Nat) (fv : AV) (w : List (List Int)) (S : Nat → Prop) (C k : Nat) (s : St) : Prop where
  ex : ∃ (vt vo : AV) (tl ol : List Int), k = tl.length + 2 * (w.length - ol.length) ∧ s.A 5 = fv ∧ s.A 6 = vt ∧ s.A 7 = vo ∧ PH H0 N0 s.H s.N vt vo tl ol ∧ PcI (FB w) S w.length (fun _ => False) tl ol ∧ tl.length ≤ C + ol.length

theorem placed_todo (hW : Rows fv w) {C : Nat} (hC : C ≤ 2000) (h5 : A 5 = fv) (h6 : A 6 = vt) (h7 : A 7 = vo) (hP : PH H0 N0 H N vt vo tl ol) (hI : PcI (FB w) S w.length (fun _ => False) tl ol) (hc : tl.length ≤ C + ol.length)
    (hk : ∀ (A' : Nat → AV) (H' : AHeap) (N' : Nat) (vt' vo' : AV) (ol' : List Int), A' 7 = vo' → PH H0 N0 H' N' vt' vo' [] ol' → PcI (FB w) S w.length (fun _ => False) [] ol' →
      onward Try.prog fs Q (.exit 2) ⟨A', H', N'⟩) : run Try.prog (.loop a_front_Placedb2) fs Q ⟨A, H, N⟩ := by
  have hwn := hW.n
  refine run_loop (PwT H0 N0 fv w S C) (tl.length + 2 * (w.length - ol.length)) ?_ ?_
  · exact ⟨vt, vo, tl, ol, rfl, h5, h6, h7, hP, hI, hc⟩
  · rintro k A1 H1 N1 ⟨vt1, vo1, tl1, ol1, hk', e5, e6, e7, hP1, hI1, hc1⟩
    simp only at e5 e6 e7 hP1
    have htl := hP1.t.rd.len
    rw [intCells_len] at htl
    by_cases h0 : tl1 = []
    · subst h0
      have htl' : alen 1 vt1 = some 0 := htl
      simp [a_front_Placedb2, e6, htl', -alen]
      exact hk _ _ _ vt1 vo1 ol1 (by simp [e7]) hP1 hI1
    · obtain ⟨t2, a, rfl⟩ : ∃ t2 a, tl1 = t2 ++ [a] := ⟨tl1.dropLast, tl1.getLast h0, (List.dropLast_concat_getLast h0).symm⟩
      obtain ⟨b, rfl, hbn, hbS⟩ := hI1.td a (by simp)
      rw [List.length_append, List.length_singleton] at htl
      have hol := hI1.len hW.lt
      simp only [List.length_append, List.length_singleton] at hc1
      have hat : (t2 ++ [(b : Int)])[t2.length]? = some (b : Int) := by simp
      obtain ⟨hb2, hb3⟩ := List.getElem?_eq_some_iff.1 hat
      obtain ⟨p, hp, pp⟩ := hP1.t.rd.at (intCells_sz _) (intCells_at hb2)
      have lp := pp.one
      rw [hb3] at lp
      have wr : IntKind.i64.wrap (((t2.length + 1 : Nat) : Int) - 1) = ((t2.length : Nat) : Int) := by rw [wrap_i64 (by omega) (by omega)]; omega
      have hwb : w[b]? = some w[b] := List.getElem?_eq_getElem hbn
      have hfa := hW.at_ b _ hwb
      have hrl := rv_len w[b]
      rcases hP1.t with ⟨h1, _⟩ | ⟨i, z, h1, rfl, h2⟩
      · simp at h1
      have hsl : aslice 1 (.ms i 0 (t2 ++ [(b : Int)]).length 1) none (some (i64 t2.length)) (some (i64 t2.length)) = some (.ms i 0 t2.length 1) := by
        simp [aslice, bnd]; omega
      have hP2 : PH H0 N0 H1 N1 (.ms i 0 t2.length 1) vo1 t2 ol1 := by
        refine ⟨hP1.f, .inr ⟨i, (b : Int) :: z, h1, rfl, by rw [h2]; simp⟩, hP1.o, fun i' n m hv => ?_, hP1.low, hP1.le⟩
        cases hv
        exact hP1.ap _ _ m rfl
      have hlen : (t2 ++ [(b : Int)]).length = t2.length + 1 := by simp
      rw [hlen] at htl hp hsl
      have wr2 : IntKind.i64.wrap (t2.length : Int) = (t2.length : Int) := wrap_i64 (by omega) (by omega)
      have lip : aload H1 false 1 (.ip [rv w[b]] 0) = some (rv w[b]) := rfl
      have hpos : (0 : Int) < (t2.length : Int) + 1 := by omega
      simp [a_front_Placedb2, e5, e6, htl, hlen, wr, wr2, hp, lp, hsl, hfa, hrl, hpos, lip, -aload, -alen]
      refine placed_row (vt := .ms i 0 t2.length 1) (vo := vo1) (tl := t2) (ol := ol1) (M := t2.length + 1 + 2 * (w.length - ol1.length)) hW hC hwb hbS ?_ ?_ ?_ ?_ ?_ ?_ hP2 hI1.pop (by omega) (by omega) ?_
      · simp [e5]
      · simp
      · simp [e7]
      · simp
      · simp
      · simp
      intro A2 H2 N2 vt2 vo2 tl2 ol2 g5 g6 g7 hP3 hI3 hc3 hm3
      simp
      exact ⟨tl2.length + 2 * (w.length - ol2.length), by simp at hk'; omega, ⟨vt2, vo2, tl2, ol2, rfl, by simp [g5], by simp [g6], by simp [g7], hP3, hI3, hc3⟩⟩

/-- Placed, written over by whoever has it. -/
theorem a_PlacedF (hx : x.Ok) (hn : x.g.length ≤ 100) (he : edges x.g ≤ 10000) (hls : ls.length ≤ 2000) (hv : ∀ H' : AHeap, (∀ i, i < N → H' i = H i) → RdSl H' 1 (intCells ls) v) :
    ACall Try.prog 30 [x.av, v] H N (fun r H' N' => SlAt H' r (natI (plG x.g ls)) ∧ (∀ i, i < N → H' i = H i) ∧ N ≤ N' ∧ ∀ i n, r = .ms i 0 n 1 → N ≤ i) := by
  refine acallF mixed c_front_Placed (by simp) fun hF => ?_
  obtain ⟨w, hw⟩ : ∃ w, w = if mayG x.g = true then frW x.g else [] := ⟨_, rfl⟩
  obtain ⟨S, hS⟩ : ∃ S : Nat → Prop, S = fun b : Nat => (b : Int) ∈ ls := ⟨_, rfl⟩
  have hpl : natI (plG x.g ls) = natI (setL w.length (Pl (FB w) S)) := by
    by_cases hm : mayG x.g = true
    · obtain ⟨hin, h00⟩ := may_in hm
      rw [if_pos hm] at hw
      have : FB w = FrG (Edge x.g) := by
        funext b c
        apply propext
        unfold FB
        rw [hw]
        constructor
        · rintro ⟨l, h1, h2⟩
          have hb : b < x.g.length := by rw [← frW_len (g := x.g)]; exact (List.getElem?_eq_some_iff.1 h1).1
          rw [frW_at hb] at h1
          cases h1
          obtain ⟨c', h3, h4⟩ := natI_mem.1 h2
          have : c = c' := by omega
          subst this
          exact (setL_mem.1 h4).2
        · intro h
          obtain ⟨h1, h2⟩ := frG_in hin h00 b c h
          exact ⟨_, frW_at h1, natI_mem.2 ⟨c, rfl, setL_mem.2 ⟨h2, h⟩⟩⟩
      simp only [plG, hm, if_true, this, hS]
      rw [hw, frW_len]
    · rw [if_neg hm] at hw
      simp [plG, hm, hw, natI, setL]
  have hR : Rows (frV x.g) w := by
    by_cases hm : mayG x.g = true
    · obtain ⟨hin, h00⟩ := may_in hm
      rw [if_pos hm] at hw
      have hwl : w.length = x.g.length := by rw [hw, frW_len]
      refine ⟨by omega, ?_, fun b l hb => ?_, fun l hl => ?_⟩
      · simp [frV, hm, rowsV_len, hw]
      · have hb2 : (rowsV (frW x.g))[b]? = some [rv l] := by
          rw [hw] at hb
          simp only [rowsV, List.getElem?_map, hb, Option.map_some]; rfl
        simp only [frV, hm, if_true]
        exact aindex_sl (by omega) hb2
      · rw [hw] at hl
        obtain ⟨b, hb, rfl⟩ := List.mem_map.1 hl
        rw [hwl]
        refine ⟨?_, fun v hv => ?_⟩
        · simp only [natI, List.length_map]; exact setL_len
        · obtain ⟨c, rfl, h2⟩ := natI_mem.1 hv
          have := (setL_mem.1 h2).1
          omega
    · rw [if_neg hm] at hw
      subst hw
      exact ⟨by simp, by simp [frV, hm], fun b l h => by simp at h, fun l h => by simp at h⟩
  simp [a_front_Placed]
  refine (p_frOf x hx hn he).acall ?_
  have hvl := (hv H fun _ _ => rfl).len
  rw [intCells_len] at hvl
  simp [hvl, -alen]
  refine placed_set (fv := frV x.g) (v := v) (ls := ls) hR hls hv ?_ ?_ ?_ ?_ ?_ ?_ hF ?_
  · simp
  · simp
  · simp
  · simp
  · simp
  · simp
  intro A2 H2 N2 vt2 e5 e6 e7 hP2
  have hI : PcI (FB w) S w.length (fun _ => False) (inL w.length ls) [] := by
    refine ⟨by simp, by simp, fun u hu => ?_, fun b hb hs => ?_⟩
    · rw [inL, List.mem_filter] at hu
      obtain ⟨h1, h2⟩ := hu
      simp at h2
      refine ⟨u.toNat, by omega, by omega, .inl ?_⟩
      rw [hS]
      show ((u.toNat : Nat) : Int) ∈ ls
      rw [show ((u.toNat : Nat) : Int) = u by omega]
      exact h1
    · left
      rcases hs with h1 | h1
      · rw [hS] at h1
        rw [inL, List.mem_filter]
        exact ⟨h1, by simp; omega⟩
      · simp at h1
  have hil := inL_len w.length ls
  simp
  refine placed_todo (C := 2000) hR (by omega) (vt := vt2) (vo := .sl .nil 0 []) ?_ ?_ ?_ hP2 hI (by simp; omega) ?_
  · exact e5
  · exact e6
  · exact e7
  intro A3 H3 N3 vt3 vo3 ol3 g7 hP3 hI3
  have hlen := hI3.len hR.lt
  have hso := sort_set hI3.nd (hI3.done hR.lt) fun c hc => hc.lt hR.lt
  rw [hpl, ← hso]
  simp [g7]
  rcases hP3.o with ⟨rfl, rfl⟩ | ⟨h0, i, h1, rfl, h2⟩
  · refine p_Sort_nil.acall ?_
    simp [g7]
    exact ⟨.inl ⟨by simp [sortL], rfl⟩, hP3.low, hP3.le⟩
  · have hn3 := hR.n
    have hpos : 0 < ol3.length := by
      cases ol3 with
      | nil => exact absurd rfl h0
      | cons a l => simp
    refine (a_Sort h2 hpos (by omega) N3).mono ?_
    rintro r H4 N4 ⟨rfl, hH4, hN4⟩
    rw [hH4, hN4]
    simp [g7]
    have hsl : (sortL ol3).length = ol3.length := by simp [sortL]
    refine ⟨.inr ⟨fun h => by rw [h] at hsl; simp at hsl; omega, i, [], by rw [hsl], by simp⟩, fun j hj => ?_, hP3.le, h1⟩
    simp [show j ≠ i by omega]
    exact hP3.low j hj

theorem a_Placed (hx : x.Ok) (hn : x.g.length ≤ 100) (he : edges x.g ≤ 10000) (hls : ls.length ≤ 2000) (hv : ∀ H' : AHeap, (∀ i, i < N → H' i = H i) → RdSl H' 1 (intCells ls) v) :
    ACall Try.prog 30 [x.av, v] H N (fun r H' N' => SlAt H' r (natI (plG x.g ls)) ∧ (∀ i, i < N → H' i = H i) ∧ N ≤ N') :=
  (a_PlacedF hx hn he hls hv).mono fun _ _ _ h => ⟨h.1, h.2.1, h.2.2.1⟩
end

end Go.Proofs.Ytmbbklddjkmcmaa
