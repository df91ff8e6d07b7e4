/- The law MemFirst. -/
import Derived.Test.YtmgmgeijfkcglaaB1
import Derived.Test.YtmgmgeijfkcglaaAC
namespace Go.Proofs.Ytmgmgeijfkcglaa
set_option linter.unusedSimpArgs false
set_option linter.unusedVariables false
open Go Go.Fw
attribute [local simp] Value.oneCell' anil aidxs noHeap_or set_or

theorem globs_len (k0 : SK) (l : List Glob) : alen 1 (.sl k0 3 (l.map Glob.cells)) = some (l.length : Int) := by simp [alen]

/-- Rows handed out read as they are. -/
theorem CellsAns.rd {H0 H : AHeap} {N0 N : Nat} {rows : List (List Int)} {r : AV} (h : CellsAns H0 N0 rows r H N) : ∃ es, RdRows H rows es ∧ RdSl H 1 es r := by
  obtain ⟨h1, _, _⟩ := h
  by_cases h0 : rows = []
  · rw [if_pos h0] at h1
    subst h0; subst h1
    exact ⟨[], ⟨rfl, by simp, by simp⟩, .nil _ _⟩
  · rw [if_neg h0] at h1
    obtain ⟨oid, ids, rfl, hR, _⟩ := h1
    have hl := hR.hl
    refine ⟨(List.zipWith (fun rid row => AV.ms rid 0 (List.length row) 1) ids rows).map fun v => [v], ⟨by simp [hl], fun x hx => ?_, fun i row x h1 h2 => ?_⟩, ?_⟩
    · obtain ⟨v, _, rfl⟩ := List.mem_map.1 hx; rfl
    · have hi : i < rows.length := (List.getElem?_eq_some_iff.1 h1).1
      have hi2 : i < ids.length := by omega
      have hr : rows[i] = row := (List.getElem?_eq_some_iff.1 h1).2
      simp [List.getElem?_zipWith, hi, hi2] at h2
      refine ⟨_, h2.symm, ?_⟩
      rw [hr]
      have h3 := hR.hr i ids[i] row (by simp [hi2]) h1
      have h4 := RdSl.ms (H := H) (sz := 1) (id := ids[i]) (es := intCells row) (by rw [intCells_flat]; exact h3) (by rw [intCells_flat, intCells_len]; simp)
      rw [intCells_len] at h4
      exact h4
    · have h3 := hR.ho
      have hf : ((List.zipWith (fun rid row => AV.ms rid 0 (List.length row) 1) ids rows).map fun v => [v]).flatten = List.zipWith (fun rid row => AV.ms rid 0 (List.length row) 1) ids rows := by
        generalize List.zipWith (fun rid row => AV.ms rid 0 (List.length row) 1) ids rows = l
        induction l with
        | nil => rfl
        | cons a l ih => simp only [List.map_cons, List.flatten_cons, ih]; rfl
      have h4 := RdSl.ms (H := H) (sz := 1) (id := oid) (es := (List.zipWith (fun rid row => AV.ms rid 0 (List.length row) 1) ids rows).map fun v => [v]) (by rw [hf]; exact h3) (by rw [hf]; simp)
      have hlen : ((List.zipWith (fun rid row => AV.ms rid 0 (List.length row) 1) ids rows).map fun v => [v]).length = rows.length := by simp [hl]
      rw [hlen] at h4
      exact h4

section
variable {H : AHeap} {m hid cid : Nat} {rids : List Nat} {locks : Int} {l : List Glob} {k0 : SK} {es : List (List AV)} {c : AV} {A : Nat → AV} {N : Nat} {fs : List Fr} {Q : Post}

theorem first_inner (hl : l.length ≤ 100000) (hb : ∀ g ∈ l, g.bad = false) (hr : RdRows H (l.map Glob.row) es) (hc : RdSl H 1 es c) {j : Nat} (hj : j < l.length)
    (h0 : A 0 = .sl k0 3 (l.map Glob.cells)) (h9 : A 9 = c) (h10 : A 10 = i64 j) (h11 : A 11 = i64 0)
    (hk : ∀ A', (∀ t, t ≤ 10 → A' t = A t) → A' 16 = A 16 → onward Try.prog fs Q (.exit 4) ⟨A', H, N⟩) : run Try.prog (.loop a_bobbinlaw08_MemFirstb2) fs Q ⟨A, H, N⟩ := by
  have hg := hb l[j] (List.getElem_mem hj)
  have hje : j < es.length := by rw [hr.1]; simpa using hj
  obtain ⟨v, hv, rv⟩ := hr.2.2 j l[j].row es[j] (by simp [hj]) (by simp [hje])
  have hea : es[j]? = some [v] := by rw [← hv]; simp [hje]
  obtain ⟨p, hp, pp⟩ := hc.at hr.2.1 hea
  have lp := pp.one
  have hlen := rv.len
  rw [intCells_len] at hlen
  have hrow : l[j].row = List.replicate l[j].size.toNat l[j].first := rfl
  have hix : aindex 3 (.sl k0 3 (l.map Glob.cells)) (i64 j) = some (.ip l[j].cells 0) := by simp [aindex, hj]
  have hsz : l[j].row.length ≤ 1024 := by
    simp [Glob.bad] at hg
    rw [hrow]; simp; omega
  refine run_loop (fun n s => ∃ k, k ≤ l[j].row.length ∧ n = l[j].row.length - k ∧ (∀ t, t ≤ 10 → s.A t = A t) ∧ s.A 16 = A 16 ∧ s.A 11 = i64 k ∧ s.H = H ∧ s.N = N) l[j].row.length ?_ ?_
  · exact ⟨0, by omega, by omega, fun _ _ => rfl, rfl, h11, rfl, rfl⟩
  · rintro n A1 H1 N1 ⟨k, hkl, rfl, hA, h16, h11, rfl, rfl⟩
    simp only at hA h16 h11
    have e0 := hA 0 (by omega)
    have e9 := hA 9 (by omega)
    have e10 := hA 10 (by omega)
    rw [h0] at e0
    rw [h9] at e9
    rw [h10] at e10
    by_cases hkj : k = l[j].row.length
    · subst hkj
      simp [a_bobbinlaw08_MemFirstb2, h11, e0, e9, e10, hp, lp, hlen, -aload, -alen]
      refine hk _ (fun t ht => ?_) (by simpa using h16)
      refine Eq.trans ?_ (hA t ht)
      try simp only [upA]
      repeat rw [if_neg (by omega)]
    · have hlt : k < l[j].row.length := by omega
      obtain ⟨q, hq, qq⟩ := rv.at (intCells_sz _) (intCells_at hlt)
      have lq := qq.one
      have hkf : l[j].row[k] = l[j].first := by simp [hrow]
      rw [hkf] at lq
      have l1 : aload H1 false 1 (.ip l[j].cells 2) = some (i64 l[j].first) := by simp [Glob.cells]
      simp [a_bobbinlaw08_MemFirstb2, h11, e0, e9, e10, hp, lp, hlen, hlt, hq, lq, hix, l1, globs_len, -aload, -alen]
      refine ⟨l[j].row.length - (k + 1), by omega, k + 1, by omega, rfl, fun t ht => ?_, by simpa using h16, by rw [wrap_i64 (by omega) (by omega)]; rfl⟩
      refine Eq.trans ?_ (hA t ht)
      try simp only [upA]
      repeat rw [if_neg (by omega)]

theorem first_rows (hM : IsMem H m hid cid rids (l.map Glob.row) locks []) (hl : l.length ≤ 100000) (hb : ∀ g ∈ l, g.bad = false) (hr : RdRows H (l.map Glob.row) es) (hc : RdSl H 1 es c)
    (h0 : A 0 = .sl k0 3 (l.map Glob.cells)) (h1 : A 1 = i64 locks) (h7 : A 7 = .mp m 0) (h9 : A 9 = c) (h10 : A 10 = i64 0)
    (hk : ∀ A', A' 0 = .sl k0 3 (l.map Glob.cells) → A' 1 = i64 locks → A' 7 = .mp m 0 → onward Try.prog fs Q (.exit 2) ⟨A', H, N⟩) : run Try.prog (.loop a_bobbinlaw08_MemFirstb3) fs Q ⟨A, H, N⟩ := by
  refine run_loop (fun n s => ∃ k, k ≤ l.length ∧ n = l.length - k ∧ s.A 0 = .sl k0 3 (l.map Glob.cells) ∧ s.A 1 = i64 locks ∧ s.A 7 = .mp m 0 ∧ s.A 9 = c ∧ s.A 10 = i64 k ∧ s.H = H ∧ s.N = N) l.length ?_ ?_
  · exact ⟨0, by omega, by omega, h0, h1, h7, h9, h10, rfl, rfl⟩
  · rintro n A1 H1 N1 ⟨j, hjl, rfl, e0, e1, e7, e9, e10, rfl, rfl⟩
    simp only at e0 e1 e7 e9 e10 hM hr hc hk
    by_cases hj0 : j = l.length
    · subst hj0
      simp [a_bobbinlaw08_MemFirstb3, e0, e10]
      refine hk _ ?_ ?_ ?_ <;> simp [e0, e1, e7]
    · have hj : j < l.length := by omega
      have hg := hb l[j] (List.getElem_mem hj)
      have hje : j < es.length := by rw [hr.1]; simpa using hj
      obtain ⟨v, hv, rv⟩ := hr.2.2 j l[j].row es[j] (by simp [hj]) (by simp [hje])
      have hea : es[j]? = some [v] := by rw [← hv]; simp [hje]
      obtain ⟨p, hp, pp⟩ := hc.at hr.2.1 hea
      have lp := pp.one
      have hlen := rv.len
      rw [intCells_len] at hlen
      have hrl := row_len hg
      rw [hrl] at hlen
      have hix : aindex 3 (.sl k0 3 (l.map Glob.cells)) (i64 j) = some (.ip l[j].cells 0) := by simp [aindex, hj]
      have l1 : aload H1 false 1 (.ip l[j].cells 1) = some (i64 l[j].size) := by simp [Glob.cells]
      simp [a_bobbinlaw08_MemFirstb3, e0, e9, e10, hj, hp, lp, hlen, hix, l1, globs_len, -aload, -alen]
      refine first_inner (l := l) (k0 := k0) hl hb hr hc hj ?_ ?_ ?_ ?_ ?_
      · simp [e0]
      · simp [e9]
      · simp [e10]
      · simp
      intro A2 hA2 _
      have f0 := hA2 0 (by omega)
      have f1 := hA2 1 (by omega)
      have f7 := hA2 7 (by omega)
      have f9 := hA2 9 (by omega)
      have f10 := hA2 10 (by omega)
      simp [e0, e1, e7, e9, e10] at f0 f1 f7 f9 f10
      simp [f0, f7, f9, f10, hix, l1, globs_len, -aload, -alen]
      have hc5 : cellErr (l.map Glob.row) j l[j].size = 5 := by
        have : (l.map Glob.row).getD (j : Int).toNat [] = l[j].row := by simp [hj]
        unfold cellErr
        rw [if_neg (by simp; omega), this, if_pos (by omega)]
      have hc5' : cellErr (l.map Glob.row) j (-1) = 5 := by
        unfold cellErr
        rw [if_neg (by simp; omega), if_pos (by omega)]
      refine (p24 hM j l[j].size _).mono ?_
      rintro r H2 N2 ⟨rfl, rfl, rfl⟩
      simp [hc5, f7, f10]
      refine (p24 hM j (-1) _).mono ?_
      rintro r H2 N2 ⟨rfl, rfl, rfl⟩
      simp [hc5', f0, f1, f7, f9, f10]
      exact ⟨l.length - (j + 1), by omega, j + 1, by omega, rfl, by rw [wrap_i64 (by omega) (by omega)]; rfl⟩

theorem first_locks (hM : IsMem H m hid cid rids (l.map Glob.row) locks []) (hl0 : 0 ≤ locks) (hl2 : locks ≤ 256) (h0 : A 0 = .sl k0 3 (l.map Glob.cells)) (h1 : A 1 = i64 locks) (h7 : A 7 = .mp m 0) (h16 : A 16 = i64 (-1))
    (hk : ∀ A', A' 0 = .sl k0 3 (l.map Glob.cells) → A' 1 = i64 locks → A' 7 = .mp m 0 → onward Try.prog fs Q (.exit 6) ⟨A', H, N⟩) : run Try.prog (.loop a_bobbinlaw08_MemFirstb1) fs Q ⟨A, H, N⟩ := by
  refine run_loop (fun n s => ∃ k : Int, -1 ≤ k ∧ k ≤ locks + 1 ∧ (n : Int) = locks + 1 - k ∧ s.A 0 = .sl k0 3 (l.map Glob.cells) ∧ s.A 1 = i64 locks ∧ s.A 7 = .mp m 0 ∧ s.A 16 = i64 k ∧ s.H = H ∧ s.N = N) (locks + 2).toNat ?_ ?_
  · exact ⟨-1, by omega, by omega, by omega, h0, h1, h7, h16, rfl, rfl⟩
  · rintro n A1 H1 N1 ⟨k, hk1, hk2, hn, e0, e1, e7, e16, rfl, rfl⟩
    simp only at e0 e1 e7 e16 hM hk
    by_cases hj0 : k = locks + 1
    · subst hj0
      simp [a_bobbinlaw08_MemFirstb1, e1, e16, show ¬ (locks + 1 ≤ locks) by omega]
      refine hk _ ?_ ?_ ?_ <;> simp [e0, e1, e7]
    · have hkl : k ≤ locks := by omega
      simp [a_bobbinlaw08_MemFirstb1, e1, e16, e7, hkl]
      refine (p25 hM k _).mono ?_
      rintro r H2 N2 ⟨rfl, rfl, rfl⟩
      simp [holder, e0, e1, e7, e16]
      exact ⟨n - 1, by omega, k + 1, by omega, by omega, by omega, by rw [wrap_i64 (by omega) (by omega)]⟩
end

theorem mapEq_nil : mapEq [] [] = true := rfl

set_option maxRecDepth 20000 in
theorem p_MemFirst (k0 : SK) (l : List Glob) (locks : Int) : ACall Try.prog 8 [.sl k0 3 (l.map Glob.cells), i64 locks] noHeap 0 (fun r _ _ => r = bl true) := by
  refine acallF mixed c_bobbinlaw08_MemFirst (by simp) fun hF => ?_
  simp [a_bobbinlaw08_MemFirst]
  refine run_loop (fun n s => ∃ (j : Nat) (q : Int), j ≤ l.length ∧ n = l.length - j ∧ s.A 0 = .sl k0 3 (l.map Glob.cells) ∧ s.A 1 = i64 locks ∧ s.A 5 = i64 q ∧ s.A 6 = i64 j ∧ (j : Int) ≤ q ∧ q ≤ 300000 ∧ s.H = noHeap ∧ s.N = 0) l.length ?_ ?_
  · exact ⟨0, 0, by omega, by omega, by simp, by simp, by simp, by simp, by simp, by simp, rfl, rfl⟩
  rintro n A1 H1 N1 ⟨j, q, hjl, rfl, e0, e1, e5, e6, hq1, hq2, rfl, rfl⟩
  simp only at e0 e1 e5 e6
  by_cases hgo : j < l.length ∧ q ≤ 100000
  · obtain ⟨hj, hq⟩ := hgo
    have hix : aindex 3 (.sl k0 3 (l.map Glob.cells)) (i64 j) = some (.ip l[j].cells 0) := by simp [aindex, hj]
    have l1 : aload noHeap false 1 (.ip l[j].cells 1) = some (i64 l[j].size) := by simp [Glob.cells]
    obtain ⟨c, hd0⟩ : ∃ c : Int, amm true (i64 l[j].size) (i64 0) = some (i64 c) ∧ 0 ≤ c := ⟨if 0 > l[j].size then 0 else l[j].size, by simp [amm], by split <;> omega⟩
    obtain ⟨hd0, hc0⟩ := hd0
    obtain ⟨d, hd, hd1, hd2⟩ : ∃ d : Int, amm false (i64 c) (i64 100000) = some (i64 d) ∧ 0 ≤ d ∧ d ≤ 100000 :=
      ⟨if 100000 < c then 100000 else c, by simp [amm], by split <;> omega, by split <;> omega⟩
    simp [a_bobbinlaw08_MemFirstb4, e0, e1, e5, e6, hj, hq, hix, l1, hd0, hd, -aload, -amm]
    have hw : IntKind.i64.wrap (IntKind.i64.wrap (q + 1) + d) = q + 1 + d := by rw [wrap_i64 (n := q + 1) (by omega) (by omega), wrap_i64 (by omega) (by omega)]
    rw [hw]
    exact ⟨l.length - (j + 1), by omega, j + 1, by omega, rfl, by rw [wrap_i64 (by omega) (by omega)]; rfl, by omega, by omega⟩
  · by_cases hq : q ≤ 100000
    · obtain rfl : j = l.length := by omega
      simp [a_bobbinlaw08_MemFirstb4, e0, e1, e5, e6, hq, show ¬ (100000 < q) by omega]
      refine p15.acall ?_
      simp [e0, e1]
      refine (p20 k0 l (by omega) locks 0).monoF ?_
      intro r H1 N1 hr hF1 _
      unfold NewAns at hr
      split at hr
      · subst hr
        simp [nilOf]
      · rename_i hbad
        have hb : ∀ g ∈ l, g.bad = false := by simpa using hbad
        split at hr
        · subst hr
          simp [nilOf]
        · obtain ⟨m, hid, cid, rids, rfl, hM⟩ := hr
          simp
          refine (p26 hM N1).monoF ?_
          intro r H2 N2 hC hF2 hN2
          have k1 : Keeps H1 H2 := fun id o ho => by rw [hC.2.1 id (hF1.lt ho)]; exact ho
          obtain ⟨es, e2, e3⟩ := hC.rd
          have hlen := e3.len
          rw [e2.1] at hlen
          simp only [List.length_map] at hlen
          have hM2 := hM.keep k1
          simp [e0, hlen, globs_len, -alen]
          refine first_rows (l := l) (k0 := k0) hM2 (by omega) hb e2 e3 ?_ ?_ ?_ ?_ ?_ ?_
          · simp [e0]
          · simp [e1]
          · simp
          · simp
          · simp
          intro A3 g0 g1 g7
          simp
          refine first_locks (l := l) (k0 := k0) hM2 (by omega) (by omega) ?_ ?_ ?_ ?_ ?_
          · simp [g0]
          · simp [g1]
          · simp [g7]
          · simp
          intro A4 f0 f1 f7
          simp [f0, f1, f7]
          refine (p24 hM2 l.length 0 _).mono ?_
          rintro r H3 N3 ⟨rfl, rfl, rfl⟩
          have hc1 : cellErr (l.map Glob.row) l.length 0 = 1 := by
            unfold cellErr
            rw [if_pos (by simp)]
          simp [hc1, f0, f1, f7]
          refine (p22 hM2 locks 0 _).mono ?_
          rintro r H4 N4 ⟨rfl, hM4, _, rfl⟩
          have ht : takeErr locks [] locks = 1 := by simp [takeErr, lockErr]
          have hh : takeHeld locks [] locks 0 = [] := by simp [takeHeld, ht]
          rw [hh] at hM4
          simp [ht, f0, f1, f7]
          refine (p_Copy hM4 _).mono ?_
          rintro r H5 N5 ⟨c, hid2, cid2, rids2, Hc, rfl, hMc, hc1, hc2, _⟩
          simp [f7]
          refine (p_Same (hM4.keep hc2) (hMc.keep hc1) (by simp) (by simp) (by simp) (by simp) _).mono ?_
          rintro r H6 N6 ⟨rfl, rfl, rfl⟩
          simp [mapEq_nil]
    · by_cases hj2 : j < l.length
      · simp [a_bobbinlaw08_MemFirstb4, e0, e1, e5, e6, hq, hj2, show 100000 < q by omega]
        refine p15.acall ?_
        simp
      · simp [a_bobbinlaw08_MemFirstb4, e0, e1, e5, e6, hq, hj2, show 100000 < q by omega]
        refine p15.acall ?_
        simp

theorem first_contract (al : List AV) (hl : al.length = Try.f8.params.size) (h : ∀ (i : Nat) (t : TypeId) (a : AV), Try.f8.params[i]? = some t → al[i]? = some a → Arg Try.prog t a) :
    ACall Try.prog 8 al noHeap 0 (fun r _ _ => r = .lit (.bool true)) := by
  rw [Try.params8] at hl h
  match al, hl with
  | [a0, a1], _ =>
    obtain ⟨k0, l, rfl, hl0⟩ := arg_globs (h 0 _ _ rfl rfl)
    obtain ⟨x, rfl, hx⟩ := arg_int (h 1 _ _ rfl rfl)
    exact p_MemFirst k0 l x
end Go.Proofs.Ytmgmgeijfkcglaa
