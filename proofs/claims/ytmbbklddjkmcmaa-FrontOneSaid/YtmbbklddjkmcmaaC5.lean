/- dom: the reference: Kids, From; same. -/
import Derived.Test.YtmbbklddjkmcmaaC4
namespace Go.Proofs.Ytmbbklddjkmcmaa
set_option linter.unusedSimpArgs false
set_option linter.unusedVariables false
open Go Go.Fw Go.Dm

section
variable {x : GraphV} {g : List RowV} {L : List Int} {bs : List Nat} {A : Nat → AV} {H : AHeap} {N : Nat} {fs : List Fr} {Q : Post}

/-- Some more: just what changes. -/
theorem append_raw {lo : Nat} {z : AV} {l ns : List Int} {v y : AV} (h : Built H lo 1 z (intCells l) v) (hf : Fresh H N) (hlo : lo ≤ N) (hy : asrc H 1 y = some ((intCells ns).flatten, ns.length)) (hne : l ≠ []) (hl : l.length + ns.length ≤ 1000000000000) :
    ∃ H', aappend false 1 8 H N v y = some (.ms N 0 (l.length + ns.length) 1, H', N + 1) ∧ Built H' lo 1 z (intCells (l ++ ns)) (.ms N 0 (l.length + ns.length) 1) ∧ Fresh H' (N + 1) ∧ (∀ j, j ≠ N → (∀ n, v ≠ .ms j 0 n 1) → H' j = H j) := by
  obtain ⟨hs, ⟨h0, _⟩ | ⟨_, id, hid, rfl, hH⟩⟩ := h
  · cases l with
    | nil => exact absurd rfl hne
    | cons a l => cases h0
  · have hidN := hf.lt hH
    rw [intCells_len]
    refine ⟨(H.del id).set N (.blk ((intCells l).flatten ++ (intCells ns).flatten)), ?_, ⟨intCells_sz _, .inr ⟨?_, N, hlo, by rw [intCells_len, List.length_append], ?_⟩⟩, ?_, ?_⟩
    · have hfl := flatten_len (intCells_sz l)
      rw [intCells_len] at hfl
      have hc : True ∧ 0 + l.length * 1 ≤ (intCells l).flatten.length ∧ (l.length + ns.length) * 8 ≤ lim ∧ l.length + ns.length ≤ 9223372036854775807 := ⟨trivial, by omega, by unfold lim; omega, by omega⟩
      simp only [aappend, hy, hH]
      rw [if_pos hc, List.drop_zero, ← hfl, List.take_length]
    · cases l with
      | nil => exact absurd rfl hne
      | cons a l => simp [intCells]
    · rw [intCells_app, List.flatten_append]; simp [AHeap.set]
    · intro j hj
      simp only [AHeap.set, AHeap.del]
      rw [if_neg (by omega)]
      split
      · rfl
      · exact hf j (by omega)
    · intro j h1 h2
      have : j ≠ id := fun h => by subst h; exact h2 _ rfl
      simp only [AHeap.set, AHeap.del]
      rw [if_neg h1, if_neg this]

/-- The reference's kids. -/
def kidsR (L : List Int) (bs : List Nat) (j : Nat) (b : Int) : List Nat := (List.range j).filter fun (c : Nat) => decide (c ≠ 0) && (rchI bs (c : Int) && decide (nxI L bs (c : Int) = b))
theorem kidsR_next {j : Nat} {b : Int} : kidsR L bs (j + 1) b = kidsR L bs j b ++ (if (decide (j ≠ 0) && (rchI bs (j : Int) && decide (nxI L bs (j : Int) = b))) = true then [j] else []) := by
  unfold kidsR
  rw [List.range_succ, List.filter_append]
  congr 1
  simp only [List.filter_cons, List.filter_nil]
theorem kidsR_len {j : Nat} {b : Int} : (kidsR L bs j b).length ≤ j := by
  have := List.length_filter_le (fun (c : Nat) => decide (c ≠ 0) && (rchI bs (c : Int) && decide (nxI L bs (c : Int) = b))) (List.range j)
  simpa [kidsR] using this
theorem kidsR_eq (hT : TreeOk g L bs) (b : Nat) : kidsR L bs g.length b = kidsJ L L.length b := by
  unfold kidsR kidsJ
  rw [hT.ll]
  apply List.filter_congr
  intro c hc
  have hcg : c < g.length := List.mem_range.1 hc
  rw [Bool.eq_iff_iff]
  simp only [Bool.and_eq_true, decide_eq_true_eq]
  rcases hT.nx hcg with ⟨h1, h2⟩ | ⟨d, h1, h2⟩
  · constructor
    · rintro ⟨h3, h4, h5⟩
      simp [nxI, h4, List.getD, h1] at h5
    · intro h3
      rw [h1] at h3
      have := Option.some.inj h3
      omega
  · have hrc := (kids_ok hT).rch h2
    have q := rchI_of hT hrc
    have hc0 : c ≠ 0 := fun h => by subst h; rw [hT.sol.fit.z] at h2; cases h2
    rw [h1]
    simp [nxI, q, List.getD, h1, hc0]

structure KrI (n : Nat) (L : List Int) (bs : List Nat) (b : Int) (tv : AV) (H : AHeap) (N k : Nat) (s : St) : Prop where
  ex : ∃ (j : Nat) (v : AV), j ≤ n ∧ k = n - j ∧ s.A 0 = tv ∧ s.A 1 = i64 b ∧ s.A 5 = v ∧ s.A 6 = i64 j ∧ N ≤ s.N ∧ Fresh s.H s.N ∧ (∀ i, i < N → s.H i = H i) ∧ Built s.H N 1 (.sl .nil 0 []) (intCells (natI (kidsR L bs j b))) v

theorem a_rKids (hT : TreeOk g L bs) (hn : g.length ≤ 40) (b : Int) (H : AHeap) (N : Nat) :
    ACall Try.prog 25 [refV g.length L bs, i64 b] H N (fun r H' N' => N ≤ N' ∧ (∀ i, i < N → H' i = H i) ∧ Built H' N 1 (.sl .nil 0 []) (intCells (natI (kidsR L bs g.length b))) r) := by
  refine acallF mixed c_bobbinref12_Tree_Kids (by simp) fun hF => ?_
  have hl := refRows_len (n := g.length) (L := L) (bs := bs)
  simp [a_bobbinref12_Tree_Kids]
  refine run_loop (KrI g.length L bs b (refV g.length L bs) H N) g.length ?_ ?_
  · exact ⟨0, .sl .nil 0 [], by omega, by omega, by simp, by simp, by simp, by simp, Nat.le_refl _, hF, fun _ _ => rfl, Built.nil⟩
  · rintro k A H1 N1 ⟨j, v, hj, hk, e0, e1, e5, e6, hN1, hF1, hold, hB⟩
    simp only at e0 e1 e5 e6 hN1 hF1 hold hB
    by_cases hjl : j = g.length
    · subst hjl
      simp [a_bobbinref12_Tree_Kidsb1, e0, refV_eq, e5, e6, hl, -alen]
      exact ⟨hN1, hold, hB⟩
    · have hlt : j < g.length := by omega
      have q := refRch_at (bs := bs) hlt
      have wr : IntKind.i64.wrap ((j : Int) + 1) = ((j + 1 : Nat) : Int) := by rw [wrap_i64 (by omega) (by omega)]; rfl
      have hnext := kidsR_next (L := L) (bs := bs) (j := j) (b := b)
      have skip : (decide (j ≠ 0) && (rchI bs (j : Int) && decide (nxI L bs (j : Int) = b))) = false → ∀ A' : Nat → AV, A' 0 = refV g.length L bs → A' 1 = i64 b → A' 5 = v → A' 6 = i64 (j + 1 : Nat) → ∃ m, m < k ∧ KrI g.length L bs b (refV g.length L bs) H N m ⟨A', H1, N1⟩ := fun hno A' k0 k1 k5 k6 =>
        ⟨g.length - (j + 1), by omega, ⟨j + 1, v, by omega, rfl, k0, k1, k5, k6, hN1, hF1, hold, by rw [hnext, hno]; simpa using hB⟩⟩
      by_cases hj0 : j = 0
      · subst hj0
        simp [a_bobbinref12_Tree_Kidsb1, e0, refV_eq, e6, hl, hlt, show g ≠ [] from fun h => by rw [h] at hlt; simp at hlt, -alen]
        refine skip (by simp) _ ?_ ?_ ?_ ?_ <;> simp [e0, e1, e5, refV_eq, show IntKind.i64.wrap 1 = 1 by decide]
      · cases hr : rchI bs (j : Int) with
        | false =>
          rw [hr] at q
          simp [a_bobbinref12_Tree_Kidsb1, e0, refV_eq, e6, hl, hlt, show ¬ (j : Int) = 0 by omega, hj0, q, wr, -alen]
          refine skip (by simp [hr]) _ ?_ ?_ ?_ ?_ <;> simp [e0, e1, e5, refV_eq]
        | true =>
          rw [hr] at q
          simp [a_bobbinref12_Tree_Kidsb1, e0, refV_eq, e1, e6, hl, hlt, show ¬ (j : Int) = 0 by omega, hj0, q, -alen]
          rw [← refV_eq]
          refine (p_rNext hT hn _).acall ?_
          by_cases hb : nxI L bs (j : Int) = b
          · have hkl := kidsR_len (L := L) (bs := bs) (j := j) (b := b)
            have hyes : (decide (j ≠ 0) && (rchI bs (j : Int) && decide (nxI L bs (j : Int) = b))) = true := by simp [hj0, hr, hb]
            have hnext2 : natI (kidsR L bs j b) ++ [(j : Int)] = natI (kidsR L bs (j + 1) b) := by
              rw [hnext, if_pos hyes, natI_app]; rfl
            obtain ⟨v', H2, N2, happ, hB2, hold2, hN2, hF2⟩ := app_ints (ns := [(j : Int)]) hB hF1 hN1 (asrc_one H1 (j : Int)) (by rw [natI_len]; simp; omega)
            rw [hnext2] at hB2
            simp [hb, e1, e5, e6, happ, wr]
            exact ⟨g.length - (j + 1), by omega, ⟨j + 1, v', by omega, rfl, by simp [e0, refV_eq], by simp [e1], by simp, by simp, Nat.le_trans hN1 hN2, hF2, fun i hi => (hold2 i hi).trans (hold i hi), hB2⟩⟩
          · simp [hb, e1, e6, wr]
            refine skip (by simp [hb]) _ ?_ ?_ ?_ ?_ <;> simp [e0, e1, e5, refV_eq]

/-- Where From stands. -/
structure FrI (g : List RowV) (L : List Int) (bs : List Nat) (m b : Nat) (w : AV) (H : AHeap) (N k : Nat) (s : St) : Prop where
  ex : ∃ (i : Nat) (v : AV), i ≤ (kidsL L b).length ∧ k = (kidsL L b).length - i ∧ s.A 0 = refV g.length L bs ∧ s.A 5 = v ∧ s.A 6 = w ∧ s.A 7 = i64 i ∧ N ≤ s.N ∧ Fresh s.H s.N ∧ (∀ j, j < N → s.H j = H j) ∧
    RdSl s.H 1 (intCells (natI (kidsL L b))) w ∧ (∀ i1 n1, w = .ms i1 0 n1 1 → i1 < s.N) ∧ (∀ i1 n1 n2, v = .ms i1 0 n1 1 → w ≠ .ms i1 0 n2 1) ∧ (kidsL L b ≠ [] → ∃ i1 n1, w = .ms i1 0 n1 1) ∧ Built s.H N 1 (.sl .nil 0 []) (intCells (natI (b :: ((kidsL L b).take i).flatMap (pre (kidsL L) m)))) v

theorem a_rFrom (hT : TreeOk g L bs) (hn : g.length ≤ 40) : ∀ (m b : Nat) (H : AHeap) (N : Nat), b ∈ bs → bs.length ≤ bs.idxOf b + m → (pre (kidsL L) m b).length ≤ 1000000 →
    ACall Try.prog 20 [refV g.length L bs, i64 b] H N (fun r H' N' => N ≤ N' ∧ (∀ i, i < N → H' i = H i) ∧ Built H' N 1 (.sl .nil 0 []) (intCells (natI (pre (kidsL L) m b))) r)
  | 0, b, H, N, hb, hm, hlen => by
    have := List.idxOf_lt_length_iff.2 hb
    omega
  | m + 1, b, H, N, hb, hm, hlen => by
    refine acallF mixed c_bobbinref12_Tree_From (by simp) fun hF => ?_
    have hpl : (pre (kidsL L) (m + 1) b).length = 1 + ((kidsL L b).flatMap (pre (kidsL L) m)).length := by simp [pre]; omega
    simp [a_bobbinref12_Tree_From]
    refine (a_rKids hT hn b _ _).monoF ?_
    rintro w H1 N1 ⟨hN1, hold1, hBw⟩ hF1 _
    rw [kidsR_eq hT b] at hBw
    change Built H1 (N + 1) 1 (.sl .nil 0 []) (intCells (natI (kidsL L b))) w at hBw
    simp
    refine run_loop (FrI g L bs m b w H N) (kidsL L b).length ?_ ?_
    · refine ⟨0, .ms N 0 1 1, by omega, by omega, by simp, by simp, by simp, by simp, by show N ≤ N1; omega, hF1, fun j hj => ?_, hBw.rd, ?_, ?_, ?_, intCells_sz _, .inr ⟨by simp [natI, intCells], N, Nat.le_refl _, by simp [natI, intCells], ?_⟩⟩
      · show H1 j = H j
        rw [hold1 j (by omega)]; simp [show j ≠ N by omega]
      · intro i1 n1 hw
        obtain ⟨_, ⟨_, h3, _⟩ | ⟨_, i3, _, h3, h4⟩⟩ := hBw
        · rw [hw] at h3; cases h3
        · rw [hw] at h3; cases h3; exact hF1.lt h4
      · intro i1 n1 n2 hv hw
        cases hv
        obtain ⟨_, ⟨_, h3, _⟩ | ⟨_, i3, h5, h3, h4⟩⟩ := hBw
        · rw [hw] at h3; cases h3
        · rw [hw] at h3; cases h3; omega
      · intro hne
        obtain ⟨_, ⟨h3, _⟩ | ⟨_, i3, _, h3, h4⟩⟩ := hBw
        · cases hk : kidsL L b with
          | nil => exact absurd hk hne
          | cons a l => rw [hk] at h3; cases h3
        · exact ⟨_, _, h3⟩
      · show H1 N = _
        rw [hold1 N (by omega)]
        simp [natI, intCells]
    · rintro k A H2 N2 ⟨i, v, hi, rfl, e0, e5, e6, e7, hN2, hF2, hold2, hrd, hwN, hvw, hwm, hB⟩
      simp only at e0 e5 e6 e7 hN2 hF2 hold2 hrd hwN hB
      have hwl := hrd.len
      rw [intCells_len, natI_len] at hwl
      by_cases hil : i = (kidsL L b).length
      · subst hil
        rw [List.take_length] at hB
        simp [a_bobbinref12_Tree_Fromb1, e5, e6, e7, hwl, -alen]
        exact ⟨hN2, hold2, hB⟩
      · have hlt : i < (kidsL L b).length := by omega
        obtain ⟨c, hc⟩ : ∃ c, (kidsL L b)[i]? = some c := ⟨_, List.getElem?_eq_getElem hlt⟩
        have hcm := List.mem_of_getElem? hc
        obtain ⟨hrc, hlc, _⟩ := kid_of hT hcm
        have hcb2 : c ∈ bs := (hT.row.mem c).2 hrc
        have hcell : (intCells (natI (kidsL L b)))[i]? = some [i64 c] := by simp [intCells, natI, hc]
        obtain ⟨p, hp, hpt⟩ := hrd.at (intCells_sz _) hcell
        have hpl2 := hpt.one
        have hkl : (kidsL L b).length ≤ 40 := by
          have := kidsJ_len (L := L) (j := L.length) (b := b)
          rw [hT.ll] at this
          change (kidsJ L L.length b).length ≤ 40
          rw [hT.ll]
          omega
        have wr : IntKind.i64.wrap ((i : Int) + 1) = ((i + 1 : Nat) : Int) := by rw [wrap_i64 (by omega) (by omega)]; rfl
        have hsplit : (kidsL L b).take (i + 1) = (kidsL L b).take i ++ [c] := by
          rw [List.take_add_one, hc]; rfl
        have hfl : natI (b :: ((kidsL L b).take i).flatMap (pre (kidsL L) m)) ++ natI (pre (kidsL L) m c) = natI (b :: ((kidsL L b).take (i + 1)).flatMap (pre (kidsL L) m)) := by
          rw [hsplit, List.flatMap_append, ← natI_app]
          simp
        have hcount : (((kidsL L b).take (i + 1)).flatMap (pre (kidsL L) m)).length ≤ ((kidsL L b).flatMap (pre (kidsL L) m)).length := by
          have h1 : (kidsL L b).flatMap (pre (kidsL L) m) = ((kidsL L b).take (i + 1)).flatMap (pre (kidsL L) m) ++ ((kidsL L b).drop (i + 1)).flatMap (pre (kidsL L) m) := by
            rw [← List.flatMap_append, List.take_append_drop]
          rw [h1, List.length_append]; omega
        have hlen2 : (natI (b :: ((kidsL L b).take i).flatMap (pre (kidsL L) m))).length + (pre (kidsL L) m c).length ≤ 1000000 := by
          have := congrArg List.length hfl
          simp only [List.length_append, natI_len, List.length_cons] at this ⊢
          omega
        obtain ⟨iw, nw, hw⟩ := hwm (fun h => by rw [h] at hlt; simp at hlt)
        simp [a_bobbinref12_Tree_Fromb1, e0, e5, e6, e7, hwl, hlt, hp, hpl2, -alen, -aload]
        refine (a_rFrom hT hn m c H2 N2 hcb2 (by omega) (by simp only [natI_len] at hlen2; omega)).monoF ?_
        rintro r H3 N3 ⟨hN3, hold3, hBr⟩ hF3 _
        have hB3 := built_later hB hF2 hold3
        have hsrc := hBr.src
        rw [intCells_len] at hsrc
        obtain ⟨H4, happ, hB4, hF4, hold4⟩ := append_raw hB3 hF3 (by omega) hsrc (by simp [natI]) (by rw [natI_len (pre _ _ _)]; omega)
        rw [hfl] at hB4
        simp [e7, wr, happ]
        have hwid := hwN iw nw hw
        have hv0 : ∀ n, v ≠ .ms iw 0 n 1 := fun n hv => hvw iw n nw hv hw
        refine ⟨(kidsL L b).length - (i + 1), by omega, ⟨i + 1, _, by omega, rfl, by simp [e0], by simp, by simp [e6], by simp, by show N ≤ N3 + 1; omega, hF4, fun j hj => ?_, ?_, ?_, ?_, hwm, hB4⟩⟩
        · show H4 j = H j
          rw [hold4 j (by omega) (fun n hv => ?_), hold3 j (by omega), hold2 j hj]
          obtain ⟨_, ⟨h8, _⟩ | ⟨_, i9, h9, h10, _⟩⟩ := hB3
          · cases h8
          · rw [hv] at h10; cases h10; omega
        · show RdSl H4 1 (intCells (natI (kidsL L b))) w
          rcases hrd with ⟨k, z, rfl, hz⟩ | ⟨id2, off, ds, rfl, hm2⟩
          · exact .inl ⟨k, z, rfl, hz⟩
          · refine .inr ⟨id2, off, ds, rfl, hm2.imp (fun h => h) fun ⟨h1, h2⟩ => ⟨?_, h2⟩⟩
            cases hw
            rw [hold4 _ (by omega) hv0, hold3 _ (by omega), h1]
        · intro i1 n1 h1
          have := hwN i1 n1 h1
          show i1 < N3 + 1
          omega
        · intro i1 n1 n2 h1 h2
          cases h1
          rw [hw] at h2
          cases h2
          omega

/-- While a row is written over. -/
structure OverI (a : AV) (ok : Bool) (n : Nat) (k : Nat) (s : St) : Prop where
  ex : ∃ j, j ≤ n ∧ k = n - j ∧ s.A 0 = a ∧ s.A 5 = bl ok ∧ s.A 6 = i64 j ∧ (n = 0 ∨ ∃ id ds, a = .ms id 0 n 1 ∧ s.H id = some (.blk ds) ∧ ds.length = n)

theorem p_same {a b : AV} {lo : Nat} {la lb : List Int} (ha : Built H lo 1 (.sl .nil 0 []) (intCells la) a) (hb : RdSl H 1 (intCells lb) b) (hl : la.length ≤ 1000000) (N : Nat) :
    ACall Try.prog 18 [a, b] H N (fun r _ _ => r = bl (decide (la = lb))) := by
  refine acall mixed c_bobbinlaw12_same (by simp) ?_
  have hm : maxLen = 9223372036854775807 := rfl
  have hla := ha.rd.len
  rw [intCells_len] at hla
  simp [a_bobbinlaw12_same]
  refine (p_Ints ha.rd hb (by omega) N).mono ?_
  rintro r H1 N1 ⟨rfl, rfl, rfl⟩
  simp
  refine run_loop (OverI a (decide (la = lb)) la.length) la.length ?_ ?_
  · refine ⟨0, by omega, by omega, by simp, by simp, by simp, ?_⟩
    obtain ⟨b1, ⟨h0, _⟩ | ⟨_, id, _, rfl, hH⟩⟩ := ha
    · left; cases la with
      | nil => rfl
      | cons a l => cases h0
    · right
      exact ⟨id, _, by rw [intCells_len], hH, by rw [flatten_len b1, intCells_len, Nat.mul_one]⟩
  · rintro m A2 H2 N2 ⟨j, hj, hm2, e0, e5, e6, hcase⟩
    simp only at e0 e5 e6 hcase
    by_cases hjl : j = la.length
    · subst hjl
      simp [a_bobbinlaw12_sameb1, e0, e5, e6, hla, -alen]
    · have hlt : j < la.length := by omega
      rcases hcase with h0 | ⟨id, ds, rfl, hH, hds⟩
      · omega
      · have hq : aindex 1 (.ms id 0 la.length 1) (i64 j) = some (.mp id j) := by simp [aindex, hlt]
        have wr : IntKind.i64.wrap ((j : Int) + 1) = ((j + 1 : Nat) : Int) := by rw [wrap_i64 (by omega) (by omega)]; rfl
        have hst : astore H2 1 (.mp id j) (i64 (-7)) = some (H2.set id (.blk (ds.set j (i64 (-7))))) := by simp [astore, hH, hds, show j + 1 ≤ la.length by omega]
        simp [a_bobbinlaw12_sameb1, e0, e6, hlt, hq, hst, wr, -astore]
        exact ⟨la.length - (j + 1), by omega, ⟨j + 1, by omega, rfl, by simp [e0], by simp [e5], by simp, .inr ⟨id, _, rfl, by simp; rfl, by simp [hds]⟩⟩⟩

end
end Go.Proofs.Ytmbbklddjkmcmaa
