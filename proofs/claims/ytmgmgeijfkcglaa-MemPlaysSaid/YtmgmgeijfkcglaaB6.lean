/- The reference's memory: New. -/
import Derived.Test.YtmgmgeijfkcglaaB5
namespace Go.Proofs.Ytmgmgeijfkcglaa
set_option linter.unusedSimpArgs false
set_option linter.unusedVariables false
open Go Go.Fw
attribute [local simp] Value.oneCell' anil aidxs noHeap_or set_or

def RNewAns (l : List Glob) (locks : Int) (r : AV) (H : AHeap) : Prop :=
  if l.any Glob.bad = true then r = .tup [.lit (.pointer none), i64 4]
  else if locks < 0 ∨ 256 < locks then r = .tup [.lit (.pointer none), i64 1]
  else ∃ x fid bid cid rids fv bv, r = .tup [.mp x 0, i64 0] ∧ IsRef H x fid bid cid rids (l.map Glob.row) fv bv (List.replicate locks.toNat false) (List.replicate locks.toNat 0)
theorem globs_at {k : SK} {l : List Glob} {i : Nat} {g : Glob} (h : l[i]? = some g) : aindex 3 (.sl k 3 (l.map Glob.cells)) (i64 (i : Nat)) = some (.ip [.lit (.string g.name), i64 g.size, i64 g.first] 0) := by
  have hx : (l.map Glob.cells)[i]? = some g.cells := by simp [h]
  exact (aindex_sl (by omega) (by simpa using hx) : aindex 3 (.sl k 3 (l.map Glob.cells)) (i64 ((i : Nat) : Int)) = some (.ip g.cells 0))
theorem good_size {g : Glob} (h : g.bad = false) : 1 ≤ g.size ∧ g.size ≤ 1024 := by
  unfold Glob.bad at h
  have := of_decide_eq_false h
  omega
theorem row_map {g : Glob} : (Glob.row g).map (fun n => i64 n) = List.replicate g.size.toNat (i64 g.first) := by simp [Glob.row]

theorem flat_rep (n : Nat) (z : AV) : (List.replicate n [z]).flatten = List.replicate n z := by
  induction n with
  | zero => rfl
  | succ n ih => rw [List.replicate_succ, List.flatten_cons, ih, List.replicate_succ]; rfl
theorem cells_ms (id off n sz : Nat) : (AV.ms id off n sz).cells = some [.ms id off n sz] := rfl
section
variable {A : Nat → AV} {H : AHeap} {N : Nat} {fs : List Fr} {Q : Post} {k0 : SK} {l : List Glob} {locks : Int}
theorem rnew_fill {i rid n : Nat} {g : Glob} (hg : l[i]? = some g) (h0 : A 0 = .sl k0 3 (l.map Glob.cells)) (h8 : A 8 = i64 i) (h9 : A 9 = .ms rid 0 n 1) (hn : n ≤ 1024) (hr : H rid = some (.blk (List.replicate n (i64 0)))) (hF : Fresh H N)
    (hk : ∀ A' H', (∀ t ∈ [0, 1, 6, 8, 9], A' t = A t) → H' rid = some (.blk (List.replicate n (i64 g.first))) → (∀ j, j ≠ rid → H' j = H j) → Fresh H' N → onward Try.prog fs Q .normal ⟨A', H', N⟩) :
    run Try.prog (.seq (.ops [⟨some 10, .val (.val (.lit (.int .i64 0))), none⟩]) (.block 4 (.loop a_bobbinref08_Newb1))) fs Q ⟨A, H, N⟩ := by
  have hq := globs_at (k := k0) hg
  simp
  refine run_loop (fun m s => ∃ k : Nat, k ≤ n ∧ m = n - k ∧ (∀ t ∈ [0, 1, 6, 8, 9], s.A t = A t) ∧ s.A 10 = i64 k ∧ s.H rid = some (.blk (List.replicate k (i64 g.first) ++ List.replicate (n - k) (i64 0))) ∧ (∀ j, j ≠ rid → s.H j = H j) ∧ Fresh s.H N ∧ s.N = N) n ?_ ?_
  · exact ⟨0, by omega, by omega, by simp, by simp, by simpa using hr, fun _ _ => rfl, hF, rfl⟩
  · rintro m A1 H1 N1 ⟨k, hkn, rfl, eA, e10, hb, hold, hF1, eN⟩
    simp only at eA e10 hb hold hF1 eN
    subst eN
    have e0 := (eA 0 (by simp)).trans h0
    have e8 := (eA 8 (by simp)).trans h8
    have e9 := (eA 9 (by simp)).trans h9
    have hw : IntKind.i64.wrap ((k : Int) + 1) = ((k + 1 : Nat) : Int) := by rw [wrap_i64 (by omega) (by omega)]; rfl
    by_cases hkl : k < n
    · have m1 : (k : Int) < n := by omega
      obtain ⟨F, hFe⟩ : ∃ F, List.replicate k (i64 g.first) ++ List.replicate (n - k) (i64 0) = F := ⟨_, rfl⟩
      have hset : F.set k (i64 g.first) = List.replicate (k + 1) (i64 g.first) ++ List.replicate (n - (k + 1)) (i64 0) := by
        rw [← hFe, List.set_append_right _ _ (by simp), List.length_replicate, Nat.sub_self, show n - k = (n - (k + 1)) + 1 by omega, List.replicate_succ, List.set_cons_zero, List.replicate_succ', List.append_assoc]
        rfl
      have hfl : k + 1 ≤ F.length := by rw [← hFe]; simp; omega
      have u1 : aindex 1 (.ms rid 0 n 1) (i64 (k : Nat)) = some (.mp rid k) := by simp [aindex, hkl]
      rw [hFe] at hb
      simp [a_bobbinref08_Newb1, e0, e8, e9, e10, m1, hq, u1, hb, hfl, hw]
      refine ⟨n - (k + 1), by omega, k + 1, by omega, rfl, ⟨h0.symm, eA 1 (by simp), eA 6 (by simp), h8.symm, h9.symm⟩, rfl, hset, fun j hj => by rw [if_neg hj, hold j hj], fun j hj => ?_⟩
      have hrl : rid < N1 := hF1.lt hb
      simp only [AHeap.set]
      rw [if_neg (by omega)]
      exact hF1 j hj
    · have m1 : ¬ (k : Int) < n := by omega
      have hke : k = n := by omega
      subst hke
      simp [a_bobbinref08_Newb1, e9, e10]
      rw [Nat.sub_self, List.replicate_zero, List.append_nil] at hb
      refine hk _ H1 (fun t ht => ?_) hb hold hF1
      rw [← eA t ht]
      simp at ht
      rcases ht with rfl | rfl | rfl | rfl | rfl <;> simp
theorem p_rNew (hl : l.length ≤ 100000) (N0 : Nat) : ACall Try.prog 29 [.sl k0 3 (l.map Glob.cells), i64 locks] noHeap N0 (fun r H' N' => RNewAns l locks r H') := by
  obtain ⟨c1, e1⟩ : ∃ c, (.seq (.ops [⟨some 10, .val (.val (.lit (.int .i64 0))), none⟩]) (.block 4 (.loop a_bobbinref08_Newb1)) : ACode) = c := ⟨_, rfl⟩
  obtain ⟨c2, e2⟩ : ∃ c, (.loop a_bobbinref08_Newb2 : ACode) = c := ⟨_, rfl⟩
  obtain ⟨c3, e3⟩ : ∃ c, (.loop a_bobbinref08_Newb3 : ACode) = c := ⟨_, rfl⟩
  have hlen : alen 1 (.sl k0 3 (l.map Glob.cells)) = some (l.length : Int) := by simp [alen]
  refine acallF mixed c_bobbinref08_New (by simp) fun hF => ?_
  unfold a_bobbinref08_New
  rw [e2, e3]
  simp
  rw [← e3]
  refine run_loop (fun m s => ∃ i : Nat, i ≤ l.length ∧ m = l.length - i ∧ s.A 0 = .sl k0 3 (l.map Glob.cells) ∧ s.A 1 = i64 locks ∧ s.A 6 = .mp N0 0 ∧ s.A 7 = i64 i ∧ (∀ j g, j < i → l[j]? = some g → g.bad = false) ∧ s.H = noHeap.set N0 (.blk [.sl .nil 0 [], .sl .nil 0 [], .sl .nil 0 []]) ∧ s.N = N0 + 1) l.length ?_ ?_
  · refine ⟨0, by omega, by omega, by simp, by simp, by simp, by simp, fun j g hj => by omega, ?_, rfl⟩
    first | rfl | (funext id; simp [AHeap.set])
  · rintro m A1 H1 N1 ⟨i, hi, rfl, g0, g1, g6, g7, hgood, eH, eN⟩
    simp only at g0 g1 g6 g7 eH eN
    subst eN
    have hw : IntKind.i64.wrap ((i : Int) + 1) = ((i + 1 : Nat) : Int) := by rw [wrap_i64 (by omega) (by omega)]; rfl
    by_cases hil : i < l.length
    · have n1 : (i : Int) < l.length := by omega
      obtain ⟨g, hg⟩ : ∃ g, l[i]? = some g := ⟨l[i], List.getElem?_eq_getElem hil⟩
      have hq := globs_at (k := k0) hg
      by_cases s1 : g.size < 1
      · have hbad : l.any Glob.bad = true := List.any_eq_true.2 ⟨g, List.mem_of_getElem? hg, by simp [Glob.bad, s1]⟩
        simp [a_bobbinref08_Newb3, g0, g7, hlen, n1, hq, s1, RNewAns, hbad, -alen]
      · by_cases s2 : 1024 < g.size
        · have hbad : l.any Glob.bad = true := List.any_eq_true.2 ⟨g, List.mem_of_getElem? hg, by simp [Glob.bad, s2]⟩
          simp [a_bobbinref08_Newb3, g0, g7, hlen, n1, hq, s1, s2, RNewAns, hbad, -alen]
        · simp [a_bobbinref08_Newb3, g0, g1, g6, g7, hlen, n1, hq, s1, s2, hw, -alen]
          refine ⟨l.length - (i + 1), by omega, i + 1, by omega, rfl, rfl, fun j g' hj hg' => ?_, eH⟩
          by_cases hji : j = i
          · subst hji
            rw [hg] at hg'
            cases hg'
            simp [Glob.bad, s1, s2]
          · exact hgood j g' (by omega) hg'
    · have n1 : ¬ (i : Int) < l.length := by omega
      have hng : l.any Glob.bad = false := by
        rw [List.any_eq_false]
        intro g hg
        obtain ⟨j, hj, rfl⟩ := List.mem_iff_getElem.1 hg
        simp [hgood j l[j] (by omega) (List.getElem?_eq_getElem hj)]
      by_cases k1 : locks < 0
      · simp [a_bobbinref08_Newb3, g0, g1, g7, hlen, n1, k1, RNewAns, hng, -alen]
      · by_cases k2 : 256 < locks
        · simp [a_bobbinref08_Newb3, g0, g1, g7, hlen, n1, k1, k2, RNewAns, hng, -alen]
        · simp [a_bobbinref08_Newb3, g0, g1, g6, g7, hlen, n1, k1, k2, -alen]
          rw [← e2]
          have F0 : Fresh H1 (N0 + 1) := by rw [eH]; exact hF.set _
          have h00 : H1 N0 = some (.blk [.sl .nil 0 [], .sl .nil 0 [], .sl .nil 0 []]) := by rw [eH]; simp [AHeap.set]
          clear eH
          refine run_loop (fun m s => ∃ (i : Nat) (v : AV) (rids : List Nat), i ≤ l.length ∧ m = l.length - i ∧ s.A 0 = .sl k0 3 (l.map Glob.cells) ∧ s.A 1 = i64 locks ∧ s.A 6 = .mp N0 0 ∧ s.A 8 = i64 i ∧ s.H N0 = some (.blk [v, .sl .nil 0 [], .sl .nil 0 []]) ∧ Rowing s.H (N0 + 1) s.N ((l.take i).map Glob.row) rids v ∧ N0 + 1 ≤ s.N ∧ Fresh s.H s.N) l.length ?_ ?_
          · exact ⟨0, .sl .nil 0 [], [], by omega, by omega, by simp [g0], by simp [g1], by simp [g6], by simp, h00, Rowing.start _ _ _, Nat.le_refl _, F0⟩
          · rintro m A2 H2 N2 ⟨i', v, rids, hi', rfl, f0, f1, f6, f8, hv0, hR, hNN, hF2⟩
            simp only at f0 f1 f6 f8 hv0 hR hNN hF2
            have hcv := hR.b.rd.cells
            have hw' : IntKind.i64.wrap ((i' : Int) + 1) = ((i' + 1 : Nat) : Int) := by rw [wrap_i64 (by omega) (by omega)]; rfl
            unfold a_bobbinref08_Newb2
            rw [e1]
            by_cases hil' : i' < l.length
            · have n1' : (i' : Int) < l.length := by omega
              obtain ⟨g, hg⟩ : ∃ g, l[i']? = some g := ⟨l[i'], List.getElem?_eq_getElem hil'⟩
              have hq := globs_at (k := k0) hg
              obtain ⟨z1, z2⟩ := good_size (hgood i' g (by omega) hg)
              obtain ⟨n, hn⟩ : ∃ n : Nat, g.size = n := ⟨g.size.toNat, by omega⟩
              have ham : amake 1 8 [i64 0] (i64 g.size) (i64 g.size) = some (n, n) := by
                simp only [amake]
                rw [if_pos ⟨by omega, by omega, by omega, by omega, rfl⟩, hn]; rfl
              have hfl : (List.replicate n [i64 0]).flatten = List.replicate n (i64 0) := flat_rep n _
              obtain ⟨H3, hH3⟩ : ∃ H3, H2.set N2 (.blk (List.replicate n (i64 0))) = H3 := ⟨_, rfl⟩
              have hF3 : Fresh H3 (N2 + 1) := hH3 ▸ hF2.set _
              have hr3 : H3 N2 = some (.blk (List.replicate n (i64 0))) := by rw [← hH3]; simp [AHeap.set]
              have old3 : ∀ j, j < N2 → H3 j = H2 j := fun j hj => by rw [← hH3]; simp only [AHeap.set]; rw [if_neg (by omega)]
              rw [hn] at ham
              simp [f0, f8, hlen, n1', hq, hn, ham, hfl, -alen]
              rw [hH3, ← e1]
              refine rnew_fill (k0 := k0) (l := l) (i := i') (rid := N2) (n := n) (g := g) hg (by simp [f0]) (by simp [f8]) (by simp) (by omega) hr3 hF3 fun A4 H4 hA hb4 old4 hF4 => ?_
              have c0 := (hA 0 (by simp)).trans (show _ = AV.sl k0 3 (l.map Glob.cells) by simp [f0])
              have c1 := (hA 1 (by simp)).trans (show _ = i64 locks by simp [f1])
              have c6 := (hA 6 (by simp)).trans (show _ = AV.mp N0 0 by simp [f6])
              have c8 := (hA 8 (by simp)).trans (show _ = i64 i' by simp [f8])
              have c9 := (hA 9 (by simp)).trans (show _ = AV.ms N2 0 n 1 by simp)
              have hrowm : (Glob.row g).map (fun n => i64 n) = List.replicate n (i64 g.first) := by rw [row_map, hn]; rfl
              have hrowl : (Glob.row g).length = n := by simp [Glob.row, hn]
              have hv4 : H4 N0 = some (.blk [v, .sl .nil 0 [], .sl .nil 0 []]) := by rw [old4 N0 (by omega), old3 N0 (by omega), hv0]
              have hR4 : Rowing H4 (N0 + 1) (N2 + 1) ((l.take i').map Glob.row) rids v := hR.keep hF2 (fun j _ hj => by rw [old4 j (by omega), old3 j hj]) (by omega)
              obtain ⟨H5, happ, hR5, hF5, old5⟩ := hR4.grow (rid := N2) (row := Glob.row g) hF4 (by omega) (by simp; omega) (by rw [hrowm]; exact hb4) (by omega) (fun hm => by have := (hR.lt _ hm).2.1; omega) (fun n' he => by
                obtain ⟨_, ⟨_, hz, _⟩ | ⟨_, id, _, hz, hid⟩⟩ := hR.b
                · rw [hz] at he; cases he
                · rw [hz] at he; cases he; have := hF2.lt hid; omega)
              rw [hrowl] at happ
              have hv5 : H5 N0 = some (.blk [v, .sl .nil 0 [], .sl .nil 0 []]) := by rw [old5 N0 (by omega), hv4]
              have htk : (l.take i').map Glob.row ++ [Glob.row g] = (l.take (i' + 1)).map Glob.row := by
                rw [List.take_add_one, hg]; simp
              have hlk : ((l.take i').map Glob.row).length = i' := by simp; omega
              rw [htk, hlk] at hR5
              rw [hlk] at happ
              simp [nilOf, c0, c1, c6, c8, c9, hv4, hcv, splice, happ, hv5, hw', -AV.cells, cells_ms]
              refine ⟨l.length - (i' + 1), by omega, i' + 1, by omega, rfl, rfl, ⟨rids ++ [N2], ?_⟩, by omega, fun j hj => ?_⟩
              · rw [← List.map_take]
                exact hR5.keep hF5 (fun j hj _ => by simp only [AHeap.set]; rw [if_neg (by omega)]) (Nat.le_refl _)
              · simp only [AHeap.set]
                rw [if_neg (by omega)]
                exact hF5 j hj
            · have n1' : ¬ (i' : Int) < l.length := by omega
              have hie : i' = l.length := by omega
              subst hie
              rw [List.take_length] at hR
              obtain ⟨L, hL⟩ : ∃ L : Nat, locks = L := ⟨locks.toNat, by omega⟩
              have ha1 : amake 1 1 [bl false] (i64 locks) (i64 locks) = some (L, L) := by
                simp only [amake]
                rw [if_pos ⟨by omega, by omega, by omega, by omega, rfl⟩, hL]; rfl
              have ha2 : amake 1 8 [i64 0] (i64 locks) (i64 locks) = some (L, L) := by
                simp only [amake]
                rw [if_pos ⟨by omega, by omega, by omega, by omega, rfl⟩, hL]; rfl
              have hf1 : (List.replicate L [bl false]).flatten = List.replicate L (bl false) := flat_rep _ _
              have hf2 : (List.replicate L [i64 0]).flatten = List.replicate L (i64 0) := flat_rep _ _
              have hne : N0 ≠ N2 := by omega
              have hne2 : N0 ≠ N2 + 1 := by omega
              obtain ⟨cid, hvc, hdone⟩ := hR.done hF2
              simp [f0, f1, f6, f8, hlen, ha1, ha2, hf1, hf2, nilOf, hv0, hcv, hne, hne2, Ne.symm hne, Ne.symm hne2, -alen, -AV.cells, cells_ms]
              have hgb : ∀ g ∈ l, 1 ≤ g.size ∧ g.size ≤ 1024 := fun g hg => by
                obtain ⟨j, hj, rfl⟩ := List.mem_iff_getElem.1 hg
                exact good_size (hgood j l[j] (by omega) (List.getElem?_eq_getElem hj))
              obtain ⟨H9, hH9⟩ : ∃ H9, ((((H2.set N2 (.blk (List.replicate L (.lit (.bool false))))).set N0 (.blk [v, .ms N2 0 L 1, .sl .nil 0 []])).set (N2 + 1) (.blk (List.replicate L (.lit (.int .i64 0))))).set N0 (.blk [v, .ms N2 0 L 1, .ms (N2 + 1) 0 L 1])) = H9 := ⟨_, rfl⟩
              have w0 : H9 N0 = some (.blk [v, .ms N2 0 L 1, .ms (N2 + 1) 0 L 1]) := by rw [← hH9]; simp [AHeap.set]
              have w1 : H9 N2 = some (.blk (List.replicate L (bl false))) := by rw [← hH9]; simp only [AHeap.set]; rw [if_neg (Ne.symm hne), if_neg (by omega), if_neg (Ne.symm hne), if_pos trivial]
              have w2 : H9 (N2 + 1) = some (.blk (List.replicate L (i64 0))) := by rw [← hH9]; simp only [AHeap.set]; rw [if_neg (Ne.symm hne2), if_pos trivial]
              have wo : ∀ j, N0 + 1 ≤ j → j < N2 → H9 j = H2 j := fun j h1 h2 => by
                rw [← hH9]; simp only [AHeap.set]
                rw [if_neg (by omega), if_neg (by omega), if_neg (by omega), if_neg (by omega)]
              rw [hH9]
              unfold RNewAns
              rw [if_neg (by simp [hng]), if_neg (by omega), hL, Int.toNat_natCast]
              refine ⟨N0, N2, N2 + 1, cid, rids, .ms N2 0 L 1, .ms (N2 + 1) 0 L 1, rfl, ⟨fun row hrow => ?_, by simp; omega, by rw [w0, hvc], .inl ⟨by simp [blC], by rw [w1]; simp [blC]⟩, .inl ⟨by simp [inC], by rw [w2]; simp [inC]⟩, by simp, fun h => ?_, hR.len, fun j rid row a b => ?_, ?_⟩⟩
              · obtain ⟨g, hg, rfl⟩ := List.mem_map.1 hrow
                have := hgb g hg
                simp only [Glob.row, List.length_replicate]
                omega
              · obtain ⟨d1, d2, d3, d4⟩ := hdone h
                rw [wo cid d2 d3, d1]
              · obtain ⟨l1, l2, l3⟩ := hR.lt rid (List.mem_of_getElem? a)
                rw [wo rid l1 l2, hR.hr j rid row a b]
              · have hrn : ∀ r ∈ rids, N0 < r ∧ r < N2 := fun r hr => by have := hR.lt r hr; omega
                by_cases h0 : rids = []
                · rw [if_pos h0]
                  simp only [List.nodup_cons, List.mem_cons, List.not_mem_nil, or_false, not_or, List.nodup_nil, not_false_eq_true, and_true]
                  omega
                · rw [if_neg h0]
                  obtain ⟨d1, d2, d3, d4⟩ := hdone h0
                  have m1 : N0 ∉ rids := fun h => by have := hrn _ h; omega
                  have m2 : N2 ∉ rids := fun h => by have := hrn _ h; omega
                  have m3 : N2 + 1 ∉ rids := fun h => by have := hrn _ h; omega
                  simp only [List.nodup_cons, List.mem_cons, not_or]
                  exact ⟨⟨by omega, by omega, by omega, m1⟩, ⟨by omega, by omega, m2⟩, ⟨by omega, m3⟩, d4, hR.nd⟩
end
end Go.Proofs.Ytmgmgeijfkcglaa
