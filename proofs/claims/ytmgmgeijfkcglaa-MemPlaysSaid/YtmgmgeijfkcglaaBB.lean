/- The law MemPlays. -/
import Derived.Test.YtmgmgeijfkcglaaBA
namespace Go.Proofs.Ytmgmgeijfkcglaa
set_option linter.unusedSimpArgs false
set_option linter.unusedVariables false
open Go Go.Fw
attribute [local simp] Value.oneCell' anil aidxs noHeap_or set_or
theorem or_le {A B H : AHeap} (h1 : A.le H) (h2 : B.le H) : (A.or B).le H := fun id o ho => by
  simp only [AHeap.or] at ho
  cases ha : A id with
  | none => simp [ha] at ho; exact h2 id o ho
  | some a => simp [ha] at ho; subst ho; exact h1 id a ha
theorem or_dis {A B F : AHeap} (h1 : Dis A F) (h2 : Dis B F) : Dis (A.or B) F := fun id o ho => by
  simp only [AHeap.or] at ho
  cases ha : A id with
  | none => simp [ha] at ho; exact h2 id o ho
  | some a => exact h1 id a ha
theorem pair_or {M X : AHeap} {m x hid cid fid bid cid2 : Nat} {rids rids2 : List Nat} {rows : List (List Int)} {locks : Int} {held : List (Int × Int)} {fl : List Bool} {by_ : List Int} {fv bv : AV} (hMX : Dis M X) (hM : IsMem M m hid cid rids rows locks held) (hX : IsRef X x fid bid cid2 rids2 rows fv bv fl by_) : Pair (M.or X) m x rows locks held fl by_ :=
  ⟨M, X, hid, cid, rids, fid, bid, cid2, rids2, fv, bv, le_or_left _ _, le_or_right hMX, hMX, hM, hX⟩
theorem Pair.up {G G' : AHeap} {m x : Nat} {rows : List (List Int)} {locks : Int} {held : List (Int × Int)} {fl : List Bool} {by_ : List Int} (h : Pair G m x rows locks held fl by_) (hl : G.le G') : Pair G' m x rows locks held fl by_ := by
  obtain ⟨M, X, hid, cid, rids, fid, bid, cid2, rids2, fv, bv, a, b, c, d, e⟩ := h
  exact ⟨M, X, hid, cid, rids, fid, bid, cid2, rids2, fv, bv, a.trans hl, b.trans hl, c, d, e⟩
/-- A copy of each, apart from both. -/
theorem pair_copies {G : AHeap} {m x : Nat} {rows : List (List Int)} {locks : Int} {held : List (Int × Int)} {fl : List Bool} {by_ : List Int} (hP : Pair G m x rows locks held fl by_) (hfl : fl.length ≤ 1000) (N : Nat) :
    ACall Try.prog 28 [.mp m 0] G N (fun r H' N' => ∃ c, r = .mp c 0 ∧ ACall Try.prog 30 [.mp x 0] H' N' (fun r H'' _ => ∃ y G1 G2, r = .mp y 0 ∧ G1.le H'' ∧ G2.le H'' ∧ Dis G1 G2 ∧ Pair G1 m x rows locks held fl by_ ∧ Pair G2 c y rows locks held fl by_)) := by
  obtain ⟨M, X, hid, cid, rids, fid, bid, cid2, rids2, fv, bv, hMG, hXG, hMX, hM, hX⟩ := hP
  refine ((p_Copy hM N).on hMG).mono ?_
  rintro r H1 N1 ⟨M1, ⟨c, hid3, cid3, rids3, Hc, rfl, hC, l1, l2, l3⟩, m1, m2, _, _⟩
  obtain ⟨k1, k2⟩ := m2 X hXG hMX
  refine ⟨c, rfl, ((p_rCopy hX hfl N1).on k1).mono ?_⟩
  rintro r H2 N2 ⟨X1, ⟨y, fid4, bid4, cid4, rids4, fv4, bv4, Hy, rfl, hY, n1, n2, n3⟩, p1, p2, _, _⟩
  obtain ⟨q1, q2⟩ := p2 M1 m1 k2.symm
  have dMX : Dis M X := hMX
  have d1 : Dis Hc X := k2.sub l1 (.refl _)
  have d2 : Dis Hy M1 := q2.sub n1 (.refl _)
  refine ⟨y, M.or X, Hc.or Hy, rfl, or_le (l2.trans q1) (n2.trans p1), or_le (l1.trans q1) (n1.trans p1), ?_, pair_or dMX hM hX, pair_or (d2.sub (.refl _) l1).symm hC hY⟩
  exact or_dis ((or_dis l3.symm (d2.sub (.refl _) l2)).symm) ((or_dis d1 n3.symm).symm)
theorem setRows_len (rows : List (List Int)) (a p v : Int) : (setRows rows a p v).length = rows.length ∧ ∀ i, ((setRows rows a p v).getD i []).length = (rows.getD i []).length := by
  unfold setRows
  by_cases h : cellErr rows a p = 0
  · rw [if_pos h]
    refine ⟨by simp, fun i => ?_⟩
    by_cases hi : a.toNat = i
    · subst hi
      by_cases hl : a.toNat < rows.length
      · simp [List.getD, hl]
      · rw [List.set_eq_of_length_le (by omega)]
    · simp only [List.getD, List.getElem?_set, if_neg hi]
  · rw [if_neg h]; exact ⟨rfl, fun _ => rfl⟩
theorem stRows_len (st : StepV) (rows : List (List Int)) : (stRows st rows).length = rows.length ∧ ∀ i, ((stRows st rows).getD i []).length = (rows.getD i []).length := by
  unfold stRows
  split
  · exact setRows_len _ _ _ _
  · exact ⟨rfl, fun _ => rfl⟩
theorem stFl_len (st : StepV) (fl : List Bool) (by_ : List Int) : (stFl st fl by_).length = fl.length := by
  unfold stFl
  repeat (first | rfl | split | (rw [List.length_set]))
theorem Rel.heldLen {locks : Int} {held : List (Int × Int)} {fl : List Bool} {by_ : List Int} (h : Rel locks held fl by_) (hn : (held.map (·.1)).Nodup) : held.length ≤ fl.length := by
  have h1 := sub_len (l := held.map (·.1)) (m := (List.range fl.length).map fun n : Nat => (n : Int)) hn fun k hk => by
    obtain ⟨p, hp, rfl⟩ := List.mem_map.1 hk
    have hh : ∃ v, holder held p.1 = some v := by
      unfold holder
      cases hf : held.find? (fun x => x.1 == p.1) with
      | some q => exact ⟨q.2, rfl⟩
      | none => exact absurd (List.find?_eq_none.1 hf p hp) (by simp)
    obtain ⟨v, hv⟩ := hh
    obtain ⟨a, b⟩ := h.in_ _ v hv
    have := h.len
    exact List.mem_map.2 ⟨p.1.toNat, List.mem_range.2 (by omega), by omega⟩
  simpa using h1
theorem st_load {H : AHeap} {st : StepV} : aload H true 4 (.ip st.cells 0) = some (.agg st.cells) := rfl
/-- Both Sames, on a pair and its copy. -/
theorem pair_same {H G1 G2 : AHeap} {m x c y : Nat} {rows rows2 : List (List Int)} {locks : Int} {held held2 : List (Int × Int)} {fl fl2 : List Bool} {by_ by2 : List Int} (h1 : Pair G1 m x rows locks held fl by_) (h2 : Pair G2 c y rows2 locks held2 fl2 by2) (l1 : G1.le H) (l2 : G2.le H) (r1 : Rel locks held fl by_) (r2 : Rel locks held2 fl2 by2)
    (hfl : fl.length ≤ 1000) (hrl : rows.length = rows2.length) (hrr : ∀ i, (rows.getD i []).length = (rows2.getD i []).length) :
    ∃ b, (b = true ↔ rows = rows2 ∧ fl = fl2 ∧ by_ = by2) ∧ (∀ N, ACall Try.prog 27 [.mp m 0, .mp c 0] H N (fun r H' N' => r = bl b ∧ H' = H ∧ N' = N)) ∧ ∀ N, ACall Try.prog 33 [.mp x 0, .mp y 0] H N (fun r H' N' => r = bl b ∧ H' = H ∧ N' = N) := by
  obtain ⟨M, X, hid, cid, rids, fid, bid, cid2, rids2, fv, bv, a1, a2, a3, hM, hX⟩ := h1
  obtain ⟨M', X', hid', cid', rids', fid', bid', cid2', rids2', fv', bv', b1, b2, b3, hM', hX'⟩ := h2
  have lfl : fl.length = fl2.length := by have := r1.len; have := r2.len; omega
  have s1 := r1.heldLen hM.hk
  have s2 := r2.heldLen hM'.hk
  have hs := r1.same r2 hM.hk hM'.hk
  refine ⟨decide (rows = rows2) && (decide (fl = fl2) && decide (by_ = by2)), by simp, fun N => ?_, fun N => p_rSame (hX.le (a2.trans l1)) (hX'.le (b2.trans l2)) hrl lfl hfl hrr N⟩
  refine (p_Same (hM.le (a1.trans l1)) (hM'.le (b1.trans l2)) r1.r64 r2.r64 (by simp only [maxLen]; omega) (by simp only [maxLen]; omega) N).mono ?_
  rintro r H' N' ⟨rfl, h3, h4⟩
  refine ⟨?_, h3, h4⟩
  rw [hs]
  simp
theorem mp_round {A : Nat → AV} {H : AHeap} {N i m x : Nat} {fs : List Fr} {Q : Post} {k1 : SK} {sts : List StepV} {st : StepV} {rows : List (List Int)} {locks : Int} {held : List (Int × Int)} {fl : List Bool} {by_ : List Int}
    (hst : sts[i]? = some st) (b1 : In64 st.at_) (b2 : In64 st.here) (hsl : sts.length ≤ 60) (h2 : A 2 = .sl k1 4 (sts.map StepV.cells)) (h7 : A 7 = .mp m 0) (h9 : A 9 = .mp x 0) (h11 : A 11 = i64 i) (hP : Pair H m x rows locks held fl by_) (hR : Rel locks held fl by_) (hfl : fl.length ≤ 1000)
    (hk : ∀ A' H' N', A' 2 = A 2 → A' 7 = A 7 → A' 9 = A 9 → A' 11 = i64 ((i + 1 : Nat) : Int) → Pair H' m x (stRows st rows) locks (stHeld st locks held) (stFl st fl by_) (stBy st fl by_) → onward Try.prog fs Q .normal ⟨A', H', N'⟩) :
    run Try.prog a_bobbinlaw08_MemPlaysb1 fs Q ⟨A, H, N⟩ := by
  have hil := (List.getElem?_eq_some_iff.1 hst).1
  have n1 : (i : Int) < sts.length := by omega
  have hlen : alen 1 (.sl k1 4 (sts.map StepV.cells)) = some (sts.length : Int) := by simp [alen]
  have hx : (sts.map StepV.cells)[i]? = some st.cells := by simp [hst]
  have hq : aindex 4 (.sl k1 4 (sts.map StepV.cells)) (i64 (i : Nat)) = some (.ip st.cells 0) := aindex_sl (by omega) (by simpa using hx)
  have hce : st.cells = [u8 st.kind, i64 st.at_, i64 st.here, i64 st.v] := rfl
  have hw : IntKind.i64.wrap ((i : Int) + 1) = ((i + 1 : Nat) : Int) := by rw [wrap_i64 (by omega) (by omega)]; rfl
  have hR' := hR.step (st := st) b1 b2
  have hfl' : (stFl st fl by_).length ≤ 1000 := by rw [stFl_len]; exact hfl
  obtain ⟨u1, u2⟩ := stRows_len st rows
  rw [hce] at hq
  simp [a_bobbinlaw08_MemPlaysb1, h2, h7, h9, h11, n1, hlen, -alen]
  refine (pair_copies hP hfl N).mono ?_
  rintro r H1 N1 ⟨c, rfl, hcall⟩
  simp [h7, h9]
  refine hcall.mono ?_
  rintro r H2 N2 ⟨y, G1, G2, rfl, l1, l2, d, hP1, hP2⟩
  simp [h2, h7, h9, h11, hq]
  rw [← hce]
  refine ((p_do hR hP1 N2).on l1).mono ?_
  rintro r H3 N3 ⟨G3, ⟨rfl, hP3⟩, m1, m2, _, _⟩
  obtain ⟨l3, d3⟩ := m2 G2 l2 d
  simp [h7, h9]
  refine ((p_same hR' hP3 hfl' N3).on m1).mono ?_
  rintro r H4 N4 ⟨G4, ⟨rfl, hP4⟩, m4, m5, _, _⟩
  obtain ⟨l4, d4⟩ := m5 G2 l3 d3
  simp
  refine ((p_same hR hP2 hfl N4).on l4).mono ?_
  rintro r H5 N5 ⟨G5, ⟨rfl, hP5⟩, m6, m7, _, _⟩
  obtain ⟨l5, d5⟩ := m7 G4 m4 d4.symm
  simp [h7, h9]
  obtain ⟨b, _, s1, s2⟩ := pair_same hP4 hP5 l5 m6 hR' hR hfl' u1 u2
  refine (s1 N5).mono ?_
  rintro r H6 N6 ⟨rfl, rfl, rfl⟩
  simp [h7, h9]
  refine (s2 N6).mono ?_
  rintro r H7 N7 ⟨rfl, rfl, rfl⟩
  have hbb : (!decide (b = b)) = false := by simp
  cases b <;>
  · simp [h2, h7, h9, h11, hq]
    rw [← hce]
    refine ((p_do hR hP5 N7).on m6).mono ?_
    rintro r H8 N8 ⟨G8, ⟨rfl, hP8⟩, m8, m9, _, _⟩
    obtain ⟨l8, d8⟩ := m9 G4 l5 d5
    simp [h7]
    obtain ⟨b, hb, s3, _⟩ := pair_same hP4 hP8 l8 m8 hR' hR' hfl' rfl fun _ => rfl
    obtain rfl : b = true := hb.2 ⟨rfl, rfl, rfl⟩
    refine (s3 N8).mono ?_
    rintro r H9 N9 ⟨rfl, rfl, rfl⟩
    simp [h2, h7, h9, h11, hw]
    refine hk _ _ _ ?_ ?_ ?_ ?_ (hP4.up l8) <;> simp [h2, h7, h9, h11]
theorem p_MemPlays {k0 k1 : SK} {l : List Glob} {locks : Int} {sts : List StepV} (hb : ∀ st ∈ sts, In64 st.at_ ∧ In64 st.here) (H : AHeap) (N : Nat) : ACall Try.prog 9 [.sl k0 3 (l.map Glob.cells), i64 locks, .sl k1 4 (sts.map StepV.cells)] H N (fun r _ _ => r = bl true) := by
  obtain ⟨cb, eb⟩ : ∃ c, (.loop a_bobbinlaw08_MemPlaysb1 : ACode) = c := ⟨_, rfl⟩
  have hlen0 : alen 1 (.sl k0 3 (l.map Glob.cells)) = some (l.length : Int) := by simp [alen]
  have hlen1 : alen 1 (.sl k1 4 (sts.map StepV.cells)) = some (sts.length : Int) := by simp [alen]
  refine acall mixed c_bobbinlaw08_MemPlays (by simp) ?_
  unfold a_bobbinlaw08_MemPlays
  rw [eb]
  by_cases h1 : (20 : Int) < l.length
  · simp [hlen0, h1, -alen]
    refine p15.acall ?_
    simp
  · by_cases h2 : (60 : Int) < sts.length
    · simp [hlen0, hlen1, h1, h2, -alen]
      refine p15.acall ?_
      simp
    · simp [hlen0, hlen1, h1, h2, -alen]
      refine ((p20 k0 l (by omega) locks N).on (le_noHeap H)).mono ?_
      rintro r H1 N1 ⟨M, hA, l1, l2, _, _⟩
      have hB := (p_rNew (k0 := k0) (l := l) (locks := locks) (by omega) N1).on (le_noHeap H1)
      unfold NewAns at hA
      unfold RNewAns at hB
      cases hbad : l.any Glob.bad with
      | true =>
        rw [if_pos hbad] at hA
        simp only [hbad, if_true] at hB
        subst hA
        simp [-alen]
        refine hB.mono ?_
        rintro r H2 N2 ⟨X, rfl, _, _, _, _⟩
        simp [nilOf]
        refine p15.acall ?_
        simp
      | false =>
        rw [if_neg (by simp [hbad])] at hA
        simp only [hbad, Bool.false_eq_true, if_false] at hB
        by_cases h3 : locks < 0 ∨ 256 < locks
        · rw [if_pos h3] at hA
          simp only [h3, if_true] at hB
          subst hA
          simp [-alen]
          refine hB.mono ?_
          rintro r H2 N2 ⟨X, rfl, _, _, _, _⟩
          simp [nilOf]
          refine p15.acall ?_
          simp
        · rw [if_neg h3] at hA
          simp only [h3, if_false] at hB
          obtain ⟨m, hid, cid, rids, rfl, hM⟩ := hA
          simp [-alen]
          refine hB.mono ?_
          rintro r H2 N2 ⟨X, ⟨x, fid, bid, cid2, rids2, fv, bv, rfl, hX⟩, p1, p2, _, _⟩
          obtain ⟨q1, q2⟩ := p2 M l1 (fun _ _ h => by cases h)
          have hP : Pair H2 m x (l.map Glob.row) locks [] (List.replicate locks.toNat false) (List.replicate locks.toNat 0) := ⟨M, X, hid, cid, rids, fid, bid, cid2, rids2, fv, bv, q1, p1, q2.symm, hM, hX⟩
          have hR : Rel locks [] (List.replicate locks.toNat false) (List.replicate locks.toNat 0) := by
            have := rel_start (L := locks.toNat)
            rwa [show ((locks.toNat : Nat) : Int) = locks by omega] at this
          simp [nilOf]
          rw [← eb]
          refine run_loop (fun n s => ∃ (i : Nat) (rows : List (List Int)) (held : List (Int × Int)) (fl : List Bool) (by_ : List Int), i ≤ sts.length ∧ n = sts.length - i ∧ s.A 2 = .sl k1 4 (sts.map StepV.cells) ∧ s.A 7 = .mp m 0 ∧ s.A 9 = .mp x 0 ∧ s.A 11 = i64 i ∧ Pair s.H m x rows locks held fl by_ ∧ Rel locks held fl by_ ∧ fl.length ≤ 1000) sts.length ?_ ?_
          · exact ⟨0, _, _, _, _, by omega, by omega, by simp, by simp, by simp, by simp, hP, hR, by simp; omega⟩
          · rintro n A3 H3 N3 ⟨i, rows, held, fl, by_, hi, rfl, g2, g7, g9, g11, hP3, hR3, hfl⟩
            simp only at g2 g7 g9 g11 hP3
            by_cases hil : i < sts.length
            · obtain ⟨st, hst⟩ : ∃ st, sts[i]? = some st := ⟨sts[i], List.getElem?_eq_getElem hil⟩
              obtain ⟨z1, z2⟩ := hb st (List.mem_of_getElem? hst)
              refine mp_round hst z1 z2 (by omega) g2 g7 g9 g11 hP3 hR3 hfl fun A4 H4 N4 f2 f7 f9 f11 hP4 => ?_
              exact ⟨sts.length - (i + 1), by omega, i + 1, _, _, _, _, by omega, rfl, f2.trans g2, f7.trans g7, f9.trans g9, f11, hP4, hR3.step z1 z2, by rw [stFl_len]; exact hfl⟩
            · have n1 : ¬ (i : Int) < sts.length := by omega
              simp [a_bobbinlaw08_MemPlaysb1, g2, g11, hlen1, n1, -alen]
              refine p15.acall ?_
              simp
end Go.Proofs.Ytmgmgeijfkcglaa
