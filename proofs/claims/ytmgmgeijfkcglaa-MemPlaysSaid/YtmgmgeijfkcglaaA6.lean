/- Contracts of mem's memory: all cells; the examples. -/
import Derived.Test.YtmgmgeijfkcglaaA5
import Derived.Test.YtmgmgeijfkcglaaM4
namespace Go.Proofs.Ytmgmgeijfkcglaa
set_option linter.unusedSimpArgs false
set_option linter.unusedVariables false
open Go Go.Fw
attribute [local simp] Value.oneCell' anil aidxs noHeap_or set_or

section
variable {H : AHeap} {m hid cid : Nat} {rids : List Nat} {rows : List (List Int)} {locks : Int} {held : List (Int × Int)} 

/-- Clone, of a row. -/
theorem p42 {rid : Nat} {row : List Int} (h : H rid = some (.blk (row.map fun n => i64 n))) (h1 : 1 ≤ row.length) (h2 : row.length ≤ 1024) (N : Nat) :
    ACall Try.prog 42 [.ms rid 0 row.length 1] H N (fun r H' N' => r = .ms N 0 row.length 1 ∧ H' = H.set N (.blk (row.map fun n => i64 n)) ∧ N' = N + 1) := by
  refine acall mixed c42 (by simp) ?_
  have hne : row.length ≠ 0 := by omega
  have happ : aappend false 1 8 H N (.sl .exact 1 []) (.ms rid 0 row.length 1) = some (.ms N 0 row.length 1, H.set N (.blk (row.map fun n => i64 n)), N + 1) := by
    have hr : row ≠ [] := by intro h; subst h; simp at hne
    simp [aappend, h, hne, lim]
    refine ⟨⟨by omega, by omega⟩, ?_⟩
    rw [List.take_of_length_le (by simp)]
  simp [a42, nilOf, happ]

/-- Rows, in the heap, as a slice. -/
structure IsRows (H : AHeap) (oid : Nat) (ids : List Nat) (rows : List (List Int)) : Prop where
  hl : ids.length = rows.length
  ho : H oid = some (.blk (List.zipWith (fun id row => .ms id 0 (List.length row) 1) ids rows))
  hr : ∀ (i id : Nat) (row : List Int), ids[i]? = some id → rows[i]? = some row → H id = some (.blk (row.map fun n => i64 n))
  hn : oid ∉ ids
  nd : ids.Nodup

/-- What Cells answers. -/
def CellsAns (H0 : AHeap) (N0 : Nat) (rows : List (List Int)) (r : AV) (H : AHeap) (N : Nat) : Prop :=
  (if rows = [] then r = .sl .nil 0 [] else ∃ oid ids, r = .ms oid 0 rows.length 1 ∧ IsRows H oid ids rows ∧ N0 ≤ oid ∧ oid < N ∧ ∀ id ∈ ids, N0 ≤ id ∧ id < N) ∧ (∀ id, id < N0 → H id = H0 id) ∧ N0 ≤ N

theorem grow_rows {H0 H1 : AHeap} {N0 N1 : Nat} {rows0 : List (List Int)} {r : AV} (h : CellsAns H0 N0 rows0 r H1 N1) (hn : rows0.length < 1000000000) (row : List Int) :
    ∃ H2, aappend false 1 24 (H1.set N1 (.blk (row.map fun n => i64 n))) (N1 + 1) r (.sl .exact 1 [[.ms N1 0 row.length 1]]) = some (.ms (N1 + 1) 0 (rows0.length + 1) 1, H2, N1 + 2) ∧
      CellsAns H0 N0 (rows0 ++ [row]) (.ms (N1 + 1) 0 (rows0.length + 1) 1) H2 (N1 + 2) := by
  obtain ⟨h1, h2, h3⟩ := h
  by_cases h0 : rows0 = []
  · subst h0
    simp at h1
    subst h1
    refine ⟨(H1.set N1 (.blk (row.map fun n => i64 n))).set (N1 + 1) (.blk [.ms N1 0 row.length 1]), by simp [aappend, lim], ?_, ?_, by omega⟩
    · rw [if_neg (by simp)]
      refine ⟨N1 + 1, [N1], by simp, ⟨by simp, by simp, fun i id row' hi hr => ?_, by simp, by simp⟩, by omega, by omega, by simp; omega⟩
      cases i with
      | zero => simp at hi hr; subst hi; subst hr; simp
      | succ i => simp at hi
    · intro id hid
      simp only [set_at]
      rw [if_neg (by omega), if_neg (by omega)]
      exact h2 id hid
  · rw [if_neg h0] at h1
    obtain ⟨oid, ids, rfl, hR, g1, g2, g3⟩ := h1
    have hzl : (List.zipWith (fun id row => AV.ms id 0 (List.length row) 1) ids rows0).length = rows0.length := by simp [hR.hl]
    have hne : oid ≠ N1 := by omega
    have hdel : ∀ (H : AHeap) (a i : Nat), (H.del a) i = if i = a then none else H i := fun _ _ _ => rfl
    refine ⟨((H1.set N1 (.blk (row.map fun n => i64 n))).del oid).set (N1 + 1) (.blk (List.zipWith (fun id row => AV.ms id 0 (List.length row) 1) ids rows0 ++ [.ms N1 0 row.length 1])), ?_, ?_, ?_, by omega⟩
    · simp only [aappend, asrc, set_at, if_neg hne, hR.ho]
      simp only [true_or, if_true, List.flatten_cons, List.flatten_nil, List.append_nil, List.length_cons, List.length_nil]
      rw [if_pos ⟨trivial, by rw [hzl]; omega, by unfold lim; omega, by omega⟩]
      rw [List.drop_zero, List.take_of_length_le (by rw [hzl]; omega)]
    · rw [if_neg (by simp)]
      refine ⟨N1 + 1, ids ++ [N1], by simp, ⟨by simp [hR.hl], ?_, fun i id row' hi hr => ?_, ?_, List.nodup_append.2 ⟨hR.nd, by simp, fun a ha b hb => by simp at hb; have := g3 a ha; omega⟩⟩, by omega, by omega, ?_⟩
      · rw [zip_snoc hR.hl]; simp
      · by_cases hil : i < ids.length
        · rw [List.getElem?_append_left hil] at hi
          rw [List.getElem?_append_left (by rw [← hR.hl]; exact hil)] at hr
          have hmem := List.mem_of_getElem? hi
          have hid := g3 id hmem
          have hio : id ≠ oid := by intro h; subst h; exact hR.hn hmem
          simp only [set_at, hdel]
          rw [if_neg (by omega), if_neg hio, if_neg (by omega)]
          exact hR.hr i id row' hi hr
        · have hlen : i < (ids ++ [N1]).length := (List.getElem?_eq_some_iff.1 hi).1
          simp at hlen
          obtain rfl : i = ids.length := by omega
          simp at hi
          rw [hR.hl] at hr
          simp at hr
          subst hi; subst hr
          simp only [set_at, hdel]
          rw [if_neg (by omega), if_neg (Ne.symm hne), if_pos trivial]
      · simp only [List.mem_append, List.mem_cons, List.not_mem_nil, or_false, not_or]
        exact ⟨fun h => by have := g3 _ h; omega, by omega⟩
      · intro id hid
        rcases List.mem_append.1 hid with h | h
        · have := g3 id h; omega
        · simp at h; omega
    · intro id hid
      simp only [set_at, hdel]
      rw [if_neg (by omega), if_neg (by omega), if_neg (by omega)]
      exact h2 id hid

theorem p26 (hM : IsMem H m hid cid rids rows locks held) (N : Nat) : ACall Try.prog 26 [.mp m 0] H N (fun r H' N' => CellsAns H N rows r H' N') := by
  refine acallF mixed c26 (by simp) fun hF => ?_
  simp [a26, nilOf, hM.hm]
  by_cases hr0 : rids = []
  · have : rows = [] := by have := hM.hl; rw [hr0] at this; exact List.eq_nil_of_length_eq_zero this.symm
    subst hr0; subst this
    simp
    refine run_loop (fun k s => s = ⟨s.A, H, N⟩ ∧ s.A 3 = .sl .nil 0 [] ∧ s.A 12 = i64 0 ∧ s.A 13 = i64 0) 0 ?_ ?_
    · simp
    · rintro k A H1 N1 ⟨hs, h3, h12, h13⟩
      simp at hs h3 h12 h13
      obtain ⟨rfl, rfl⟩ := hs
      simp [h3, h12, h13, CellsAns]
  · simp [hr0]
    refine run_loop (fun k s => ∃ j, j ≤ rows.length ∧ k = rows.length - j ∧ s.A 11 = .ms cid 0 rids.length 1 ∧ s.A 12 = i64 rids.length ∧ s.A 13 = i64 j ∧ CellsAns H N (rows.take j) (s.A 3) s.H s.N) rows.length ?_ ?_
    · exact ⟨0, by omega, by omega, by simp, by simp, by simp, by simp [CellsAns]⟩
    · rintro k A H1 N1 ⟨j, hj, rfl, h11, h12, h13, hC⟩
      simp at h11 h12 h13 hC
      have hl := hM.hl
      by_cases hjk : j = rows.length
      · subst hjk
        simp [h12, h13, hl]
        simpa using hC
      · have hlt : j < rows.length := by omega
        have hlt2 : j < rids.length := by omega
        obtain ⟨hC1, hC2, hC3⟩ := hC
        have hold : ∀ {id o}, H id = some o → H1 id = some o := fun {id o} h => by rw [hC2 id (hF.lt h)]; exact h
        have hix : aindex 1 (.ms cid 0 rids.length 1) (i64 j) = some (.mp cid j) := by simp [aindex, hlt2]
        have hrow : (List.zipWith (fun rid row => AV.ms rid 0 (List.length row) 1) rids rows)[j]? = some (.ms rids[j] 0 rows[j].length 1) := by
          simp [List.getElem?_zipWith, hlt, hlt2]
        have hb := hM.hb rows[j] (List.getElem_mem hlt)
        simp [h11, h12, h13, hix, hlt2, hold (hM.hc hr0), hrow]
        refine (p42 (hold (hM.hr j rids[j] rows[j] (by simp [hlt2]) (by simp [hlt]))) hb.1 hb.2 N1).mono ?_
        rintro r H2 N2 ⟨rfl, rfl, rfl⟩
        obtain ⟨H3, hap, hC'⟩ := grow_rows ⟨hC1, hC2, hC3⟩ (by have := hM.hn; simp; omega) rows[j]
        have hlj : (List.take j rows).length = j := by simp; omega
        have htake : rows.take (j + 1) = rows.take j ++ [rows[j]] := by rw [List.take_add_one]; simp [hlt]
        simp [hap, h11, h12, h13]
        refine ⟨rows.length - (j + 1), by omega, j + 1, by omega, rfl, by rw [wrap_i64 (by omega) (by have := hM.hn; omega)]; rfl, ?_⟩
        rw [htake]
        simpa using hC'

end
end Go.Proofs.Ytmgmgeijfkcglaa
