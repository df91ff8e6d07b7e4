/- Contracts of mem: what compares, and the copy. -/
import Derived.Test.YtmgmgeijfkcglaaK5
import Derived.Test.YtmgmgeijfkcglaaA7
import Derived.Test.YtmgmgeijfkcglaaAB
import Derived.Test.YtmgmgeijfkcglaaM5
import Derived.Test.YtmgmgeijfkcglaaHC
import Derived.Test.YtmgmgeijfkcglaaM6
import Derived.Test.YtmgmgeijfkcglaaLM
namespace Go.Proofs.Ytmgmgeijfkcglaa
set_option linter.unusedSimpArgs false
set_option linter.unusedVariables false
open Go Go.Fw
attribute [local simp] Value.oneCell' anil aidxs noHeap_or set_or

theorem p_Equal_i64 {H : AHeap} {a b : AV} {la lb : List Int} (ha : RdSl H 1 (intCells la) a) (hb : RdSl H 1 (intCells lb) b) (hl : la.length ≤ 1000000000) (N : Nat) :
    ACall Try.prog 44 [a, b] H N (fun r H' N' => r = bl (decide (la = lb)) ∧ H' = H ∧ N' = N) := by
  refine acall mixed c_slices_Equal_int64_int64 (by simp) ?_
  have hla := ha.len
  have hlb := hb.len
  rw [intCells_len] at hla hlb
  by_cases hll : la.length = lb.length
  · simp [a_slices_Equal_int64_int64, hla, hlb, hll, -alen]
    refine run_loop (fun m s => ∃ j, j ≤ la.length ∧ m = la.length - j ∧ s.A 0 = a ∧ s.A 1 = b ∧ s.A 12 = i64 la.length ∧ s.A 13 = i64 j ∧ s.H = H ∧ s.N = N ∧ la.take j = lb.take j) la.length ?_ ?_
    · exact ⟨0, by omega, by omega, by simp, by simp, by simp [hll], by simp, by simp, by simp, by simp⟩
    · rintro m A H1 N1 ⟨j, hj, rfl, h0, h1, h12, h13, rfl, rfl, heq⟩
      simp only at h0 h1 h12 h13
      by_cases hjl : j = la.length
      · subst hjl
        have : la = lb := by
          rw [List.take_length, hll, List.take_length] at heq; exact heq
        simp [a_slices_Equal_int64_int64b1, h12, h13, this]
      · have hlt : j < la.length := by omega
        have hlt2 : j < lb.length := by omega
        obtain ⟨p, hp, pp⟩ := ha.at (intCells_sz la) (intCells_at hlt)
        obtain ⟨q, hq, qq⟩ := hb.at (intCells_sz lb) (intCells_at hlt2)
        have lp := pp.one
        have lq := qq.one
        by_cases hv : la[j] = lb[j]
        · simp [a_slices_Equal_int64_int64b1, h0, h1, h12, h13, hlt, hp, hq, lp, lq, hv, -aload]
          refine ⟨la.length - (j + 1), by omega, j + 1, by omega, rfl, by rw [wrap_i64 (by omega) (by omega)]; rfl, ?_⟩
          rw [take_next hlt, take_next hlt2, heq, hv]
        · have : la ≠ lb := fun h => hv (by subst h; rfl)
          simp [a_slices_Equal_int64_int64b1, h0, h1, h12, h13, hlt, hp, hq, lp, lq, hv, this, -aload]
  · have : la ≠ lb := fun h => hll (by rw [h])
    simp [a_slices_Equal_int64_int64, hla, hlb, show ¬ ((la.length : Int) = lb.length) by omega, this, -alen]

/-- Rows that read as these numbers. -/
def RdRows (H : AHeap) (rows : List (List Int)) (es : List (List AV)) : Prop :=
  es.length = rows.length ∧ (∀ x ∈ es, x.length = 1) ∧ ∀ (i : Nat) (row : List Int) (x : List AV), rows[i]? = some row → es[i]? = some x → ∃ v, x = [v] ∧ RdSl H 1 (intCells row) v

theorem p_EqualFunc {H : AHeap} {a b : AV} {la lb : List (List Int)} {ea eb : List (List AV)} (ra : RdRows H la ea) (rb : RdRows H lb eb) (ha : RdSl H 1 ea a) (hb : RdSl H 1 eb b) (hl : la.length ≤ 1000000000) (hr : ∀ x ∈ la, x.length ≤ 1000000000) (N : Nat) :
    ACall Try.prog 43 [a, b, .fn (.func 44) [] []] H N (fun r H' N' => r = bl (decide (la = lb)) ∧ H' = H ∧ N' = N) := by
  refine acall mixed c_slices_EqualFunc_int64_int64_int64_int64 (by simp) ?_
  have hla := ha.len
  have hlb := hb.len
  rw [ra.1] at hla
  rw [rb.1] at hlb
  by_cases hll : la.length = lb.length
  · simp [a_slices_EqualFunc_int64_int64_int64_int64, hla, hlb, hll, -alen]
    refine run_loop (fun m s => ∃ j, j ≤ la.length ∧ m = la.length - j ∧ s.A 1 = b ∧ s.A 2 = .fn (.func 44) [] [] ∧ s.A 15 = a ∧ s.A 16 = i64 la.length ∧ s.A 17 = i64 j ∧ s.H = H ∧ s.N = N ∧ la.take j = lb.take j) la.length ?_ ?_
    · exact ⟨0, by omega, by omega, by simp, by simp, by simp, by simp [hll], by simp, by simp, by simp, by simp⟩
    · rintro m A H1 N1 ⟨j, hj, rfl, h1, h2, h15, h16, h17, rfl, rfl, heq⟩
      simp only at h1 h2 h15 h16 h17
      by_cases hjl : j = la.length
      · subst hjl
        have : la = lb := by
          rw [List.take_length, hll, List.take_length] at heq; exact heq
        simp [a_slices_EqualFunc_int64_int64_int64_int64b1, h16, h17, this]
      · have hlt : j < la.length := by omega
        have hlt2 : j < lb.length := by omega
        have hea : ea[j]? = some (ea[j]'(by rw [ra.1]; exact hlt)) := by simp [ra.1, hlt]
        have heb : eb[j]? = some (eb[j]'(by rw [rb.1]; exact hlt2)) := by simp [rb.1, hlt2]
        obtain ⟨va, hva, rva⟩ := ra.2.2 j la[j] _ (by simp [hlt]) hea
        obtain ⟨vb, hvb, rvb⟩ := rb.2.2 j lb[j] _ (by simp [hlt2]) heb
        rw [hva] at hea
        rw [hvb] at heb
        obtain ⟨p, hp, pp⟩ := ha.at ra.2.1 hea
        obtain ⟨q, hq, qq⟩ := hb.at rb.2.1 heb
        have lp := pp.one
        have lq := qq.one
        simp [a_slices_EqualFunc_int64_int64_int64_int64b1, h1, h2, h15, h16, h17, hlt, hp, hq, lp, lq, -aload]
        refine (p_Equal_i64 rva rvb (hr _ (List.getElem_mem hlt)) _).mono ?_
        rintro r H2 N2 ⟨rfl, rfl, rfl⟩
        by_cases hv : la[j] = lb[j]
        · simp [hv, h1, h2, h15, h16, h17]
          refine ⟨la.length - (j + 1), by omega, j + 1, by omega, rfl, by rw [wrap_i64 (by omega) (by omega)]; rfl, ?_⟩
          rw [take_next hlt, take_next hlt2, heq, hv]
        · have : la ≠ lb := fun h => hv (by subst h; rfl)
          simp [hv, this]
  · have : la ≠ lb := fun h => hll (by rw [h])
    simp [a_slices_EqualFunc_int64_int64_int64_int64, hla, hlb, show ¬ ((la.length : Int) = lb.length) by omega, this, -alen]

section
variable {H : AHeap} {m hid cid : Nat} {rids : List Nat} {rows : List (List Int)} {locks : Int} {held : List (Int × Int)}

theorem IsMem.rdRows (hM : IsMem H m hid cid rids rows locks held) : ∃ es, RdRows H rows es ∧ RdSl H 1 es (if rids = [] then .sl .nil 0 [] else .ms cid 0 rids.length 1) := by
  by_cases h0 : rids = []
  · have : rows = [] := by have := hM.hl; rw [h0] at this; exact List.eq_nil_of_length_eq_zero this.symm
    subst this
    rw [if_pos h0]
    exact ⟨[], ⟨rfl, by simp, by simp⟩, .nil _ _⟩
  · rw [if_neg h0]
    have hl := hM.hl
    refine ⟨(List.zipWith (fun rid row => AV.ms rid 0 (List.length row) 1) rids rows).map fun v => [v], ⟨by simp [hl], fun x hx => ?_, fun i row x h1 h2 => ?_⟩, ?_⟩
    · obtain ⟨v, _, rfl⟩ := List.mem_map.1 hx; rfl
    · have hi : i < rows.length := (List.getElem?_eq_some_iff.1 h1).1
      have hi2 : i < rids.length := by omega
      have hr : rows[i] = row := (List.getElem?_eq_some_iff.1 h1).2
      simp [List.getElem?_zipWith, hi, hi2] at h2
      refine ⟨_, h2.symm, ?_⟩
      rw [hr]
      have h3 := hM.hr i rids[i] row (by simp [hi2]) h1
      have h4 := RdSl.ms (H := H) (sz := 1) (id := rids[i]) (es := intCells row) (by rw [intCells_flat]; exact h3) (by rw [intCells_flat, intCells_len]; simp)
      rw [intCells_len] at h4
      exact h4
    · have h3 := hM.hc h0
      have hf : ((List.zipWith (fun rid row => AV.ms rid 0 (List.length row) 1) rids rows).map fun v => [v]).flatten = List.zipWith (fun rid row => AV.ms rid 0 (List.length row) 1) rids rows := by
        generalize List.zipWith (fun rid row => AV.ms rid 0 (List.length row) 1) rids rows = l
        induction l with
        | nil => rfl
        | cons a l ih => simp only [List.map_cons, List.flatten_cons, ih]; rfl
      have h4 := RdSl.ms (H := H) (sz := 1) (id := cid) (es := (List.zipWith (fun rid row => AV.ms rid 0 (List.length row) 1) rids rows).map fun v => [v]) (by rw [hf]; exact h3) (by rw [hf]; simp)
      have hlen : ((List.zipWith (fun rid row => AV.ms rid 0 (List.length row) 1) rids rows).map fun v => [v]).length = rids.length := by simp [hl]
      rw [hlen] at h4
      exact h4

/-- Whether memories are the same. -/
theorem p_Same {m2 hid2 cid2 : Nat} {rids2 : List Nat} {rows2 : List (List Int)} {locks2 : Int} {held2 : List (Int × Int)} (hM : IsMem H m hid cid rids rows locks held) (hM2 : IsMem H m2 hid2 cid2 rids2 rows2 locks2 held2)
    (r1 : ∀ p ∈ held, In64 p.1 ∧ In64 p.2) (r2 : ∀ p ∈ held2, In64 p.1 ∧ In64 p.2) (s1 : held.length ≤ maxLen) (s2 : held2.length ≤ maxLen) (N : Nat) :
    ACall Try.prog 27 [.mp m 0, .mp m2 0] H N (fun r H' N' => r = bl (decide (locks = locks2) && decide (rows = rows2) && mapEq held held2) ∧ H' = H ∧ N' = N) := by
  refine acall mixed c_mem_Same (by simp) ?_
  obtain ⟨es, e1, e2⟩ := hM.rdRows
  obtain ⟨es2, e3, e4⟩ := hM2.rdRows
  have hn := hM.hn
  by_cases hl : locks = locks2
  · simp [a_mem_Same, hM.hm, hM2.hm, hl]
    refine (p_EqualFunc e1 e3 e2 e4 (by omega) (fun x hx => by have := (hM.hb x hx).2; omega) N).mono ?_
    rintro r H1 N1 ⟨rfl, rfl, rfl⟩
    by_cases hr : rows = rows2
    · simp [hr, hM.hm, hM2.hm]
      refine (a_maps_Equal hM.hh hM2.hh r1 r2 s1 s2 _).mono ?_
      rintro r H2 N2 ⟨rfl, rfl, rfl⟩
      simp
    · simp [hr]
  · simp [a_mem_Same, hM.hm, hM2.hm, hl]

/-- What a copy answers: a memory that lies apart. -/
def CopyAns (H : AHeap) (rows : List (List Int)) (locks : Int) (held : List (Int × Int)) (r : AV) (H' : AHeap) : Prop :=
  ∃ c hid2 cid2 rids2 Hc, r = .mp c 0 ∧ IsMem Hc c hid2 cid2 rids2 rows locks held ∧ Hc.le H' ∧ H.le H' ∧ Dis H Hc

/-- A copy. -/
theorem p_Copy (hM : IsMem H m hid cid rids rows locks held) (N : Nat) :
    ACall Try.prog 28 [.mp m 0] H N (fun r H' _ => CopyAns H rows locks held r H') := by
  refine acallF mixed c_mem_Mem_Copy (by simp) fun hF => ?_
  simp [a_mem_Mem_Copy, hM.hm]
  refine (p26 hM N).monoF ?_
  rintro r H1 N1 ⟨h1, h2, h3⟩ hF1 _
  have k1 : Keeps H H1 := fun id o ho => by rw [h2 id (hF.lt ho)]; exact ho
  refine ⟨k1, ?_⟩
  simp [hM.hm]
  refine (a_maps_Clone (k1 _ _ hM.hh) N1).mono ?_
  rintro r2 H2 N2 ⟨rfl, rfl, rfl⟩
  refine ⟨hF1.keeps _, ?_⟩
  have hF2 := hF1.set (.map (held.map fun x => (.int .i64 x.1, i64 x.2)))
  have hr : r.cells = some [r] := by
    split at h1
    · subst h1; rfl
    · obtain ⟨oid, ids, rfl, _⟩ := h1; rfl
  simp [hr, -AV.cells, show (AV.mm N1).cells = some [.mm N1] from rfl]
  obtain ⟨H3, hH3⟩ : ∃ H3, H3 = (H1.set N1 (.map (held.map fun x => (.int .i64 x.1, i64 x.2)))).set (N1 + 1) (.blk [r, i64 locks, .mm N1]) := ⟨_, rfl⟩
  have old : ∀ id, id < N1 → H3 id = H1 id := fun id hid => by
    rw [hH3]; simp only [AHeap.set]; rw [if_neg (by omega), if_neg (by omega)]
  have a1 : H3 (N1 + 1) = some (.blk [r, i64 locks, .mm N1]) := by rw [hH3]; simp
  have a2 : H3 N1 = some (.map (held.map fun x => (.int .i64 x.1, i64 x.2))) := by rw [hH3]; simp
  obtain ⟨Hc, hHc⟩ : ∃ Hc : AHeap, Hc = fun id => if N ≤ id then H3 id else none := ⟨_, rfl⟩
  have up : ∀ id, N ≤ id → Hc id = H3 id := fun id hid => by rw [hHc]; simp [hid]
  have hle : Hc.le H3 := fun id o ho => by
    rw [hHc] at ho
    simp only at ho
    split at ho
    · exact ho
    · cases ho
  have hle2 : H.le H3 := fun id o ho => by
    have := hF.lt ho
    rw [old id (by omega)]
    exact k1 id o ho
  have hdis : Dis H Hc := fun id o ho => by
    have := hF.lt ho
    rw [hHc]; simp; omega
  by_cases h0 : rows = []
  · rw [if_pos h0] at h1
    subst h1; subst h0
    refine ⟨N1 + 1, N1, 0, [], Hc, rfl, ?_, by rw [← hH3]; exact hle, by rw [← hH3]; exact hle2, hdis⟩
    refine ⟨by simp, by simp, hM.hk, by rw [up _ (by omega), a1]; simp, by rw [up _ (by omega), a2], by simp, by simp, by simp, by simp⟩
  · rw [if_neg h0] at h1
    obtain ⟨oid, ids, rfl, hR, g1, g2, g3⟩ := h1
    have hi0 : ids ≠ [] := fun h => h0 (List.eq_nil_of_length_eq_zero (by rw [← hR.hl, h]; rfl))
    refine ⟨N1 + 1, N1, oid, ids, Hc, rfl, ?_, by rw [← hH3]; exact hle, by rw [← hH3]; exact hle2, hdis⟩
    refine ⟨hM.hb, hM.hn, hM.hk, by rw [up _ (by omega), a1, if_neg hi0, hR.hl], by rw [up _ (by omega), a2], fun _ => by rw [up _ (by omega), old _ (by omega), hR.ho], hR.hl, fun i rid row e1 e2 => ?_, ?_⟩
    · have := g3 rid (List.mem_of_getElem? e1)
      rw [up _ (by omega), old _ (by omega), hR.hr i rid row e1 e2]
    · rw [if_neg hi0]
      have hn := hR.hn
      have n1 : N1 ∉ ids := fun h => by have := g3 _ h; omega
      have n2 : N1 + 1 ∉ ids := fun h => by have := g3 _ h; omega
      refine List.nodup_cons.2 ⟨?_, List.nodup_cons.2 ⟨?_, List.nodup_cons.2 ⟨hn, ?_⟩⟩⟩
      · simp [n2]; omega
      · simp [n1]; omega
      · exact hR.nd
end
end Go.Proofs.Ytmgmgeijfkcglaa
