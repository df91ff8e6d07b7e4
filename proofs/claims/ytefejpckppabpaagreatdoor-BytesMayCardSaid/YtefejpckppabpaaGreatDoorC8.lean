/- code: the document's answer: what an instruction reads, writes, and where it goes to. -/
import Derived.Test.YtefejpckppabpaaGreatDoorC7
import Derived.Test.YtefejpckppabpaaGreatDoorK2
namespace Go.Proofs.YtefejpckppabpaaGreatDoor
set_option linter.unusedSimpArgs false
set_option linter.unusedVariables false
open Go Go.Fw

theorem known_cases {n : Int} (h : known n = true) : n = 1 ∨ n = 2 ∨ n = 3 ∨ n = 4 ∨ n = 5 ∨ n = 6 ∨ n = 7 ∨ n = 8 ∨ n = 9 ∨ n = 10 ∨ n = 11 ∨ n = 12 ∨ n = 13 := by
  simp [known] at h; omega
theorem unknown_out {n : Int} (h : ¬ known n = true) : n < 1 ∨ 14 ≤ n := by
  simp [known] at h; omega

theorem ofR_r (n : Int) : (ofR n).r = decide (n = 1 ∨ n = 2 ∨ n = 3 ∨ n = 4 ∨ n = 5 ∨ n = 10) := by
  by_cases h : known n = true
  · rcases known_cases h with rfl | rfl | rfl | rfl | rfl | rfl | rfl | rfl | rfl | rfl | rfl | rfl | rfl <;> rfl
  · have := unknown_out h
    simp only [ofR, h]
    symm; simp [zRow]; omega
theorem ofR_a (n : Int) : (ofR n).a = decide (n = 2 ∨ n = 3 ∨ n = 4 ∨ n = 5 ∨ n = 6 ∨ n = 9 ∨ n = 12 ∨ n = 13) := by
  by_cases h : known n = true
  · rcases known_cases h with rfl | rfl | rfl | rfl | rfl | rfl | rfl | rfl | rfl | rfl | rfl | rfl | rfl <;> rfl
  · have := unknown_out h
    simp only [ofR, h]
    symm; simp [zRow]; omega
theorem ofR_b (n : Int) : (ofR n).b = decide (n = 4 ∨ n = 6) := by
  by_cases h : known n = true
  · rcases known_cases h with rfl | rfl | rfl | rfl | rfl | rfl | rfl | rfl | rfl | rfl | rfl | rfl | rfl <;> rfl
  · have := unknown_out h
    simp only [ofR, h]
    symm; simp [zRow]; omega
theorem ofR_bare (n : Int) : (ofR n).bare = decide (n = 5 ∨ n = 6) := by
  by_cases h : known n = true
  · rcases known_cases h with rfl | rfl | rfl | rfl | rfl | rfl | rfl | rfl | rfl | rfl | rfl | rfl | rfl <;> rfl
  · have := unknown_out h
    simp only [ofR, h]
    symm; simp [zRow]; omega
theorem ofR_n (n : Int) : (ofR n).n = if n = 1 then 1 else if n = 3 then 2 else if n = 4 then 3 else if n = 5 ∨ n = 6 then 4 else if n = 7 ∨ n = 8 then 5 else if n = 10 then 6 else if n = 11 ∨ n = 12 then 7 else 0 := by
  by_cases h : known n = true
  · rcases known_cases h with rfl | rfl | rfl | rfl | rfl | rfl | rfl | rfl | rfl | rfl | rfl | rfl | rfl <;> rfl
  · have := unknown_out h
    simp only [ofR, h]
    simp only [show ¬ n = 1 by omega, show ¬ n = 3 by omega, show ¬ n = 4 by omega, show ¬ (n = 5 ∨ n = 6) by omega, show ¬ (n = 7 ∨ n = 8) by omega, show ¬ n = 10 by omega, show ¬ (n = 11 ∨ n = 12) by omega, if_false]
    rfl

section
variable {H : AHeap} {N lo : Nat} {v y z : AV} {l ns : List Int}

theorem app_ints (hB : Built H lo 1 z (intCells l) v) (hF : Fresh H N) (hlo : lo ≤ N) (hy : asrc H 1 y = some ((intCells ns).flatten, ns.length)) (hl : l.length + ns.length ≤ 1000000000000) :
    ∃ v' H' N', aappend false 1 8 H N v y = some (v', H', N') ∧ Built H' lo 1 z (intCells (l ++ ns)) v' ∧ (∀ j, j < lo → H' j = H j) ∧ N ≤ N' ∧ Fresh H' N' := by
  rw [intCells_app]
  exact hB.append hF hlo (by rw [hy, intCells_len]) (intCells_sz ns) (by rw [intCells_len, intCells_len]; unfold lim; omega) (by rw [intCells_len, intCells_len]; omega)

theorem app_nil (hF : Fresh H N) (hy : asrc H 1 y = some ((intCells ns).flatten, ns.length)) (hl : ns.length ≤ 1000000000000) :
    ∃ v' H' N', aappend false 1 8 H N (.sl .nil 0 []) y = some (v', H', N') ∧ Built H' N 1 (.sl .nil 0 []) (intCells ns) v' ∧ (∀ j, j < N → H' j = H j) ∧ N ≤ N' ∧ Fresh H' N' := by
  have := app_ints (l := []) (lo := N) (z := .sl .nil 0 []) (v := .sl .nil 0 []) (H := H) Built.nil hF (Nat.le_refl _) hy (by simpa using hl)
  simpa using this

theorem Ins.Ok.src {x : Ins} (hx : x.Ok) (H : AHeap) : asrc H 1 (.sl x.k x.z (intCells x.args)) = some ((intCells x.args).flatten, x.args.length) := by
  simp only [asrc, intCells_len]; rw [if_pos (hx.hz.imp id fun h => by rw [h]; rfl)]
end

section
variable {x : Ins}

theorem readsL_of {l : List Int} (hl : readsA (ofR x.op) x ++ readsB (ofR x.op) x ++ readsC (ofR x.op) x = l) : readsL x = l := hl

set_option maxHeartbeats 1000000 in
theorem p_refReads (hx : x.Ok) (hl : x.args.length ≤ 999999999990) (H : AHeap) (N : Nat) :
    ACall Tryz.prog 82 [.agg x.cells] H N (fun r H' N' => N ≤ N' ∧ (∀ j, j < N → H' j = H j) ∧ Built H' N 1 (.sl .nil 0 []) (intCells (readsL x)) r) := by
  refine acallF mixed c_bobbinref07_Reads (by simp) fun hF => ?_
  have one := fun v : Int => app_nil (ns := [v]) hF (asrc_one H v) (by simp)
  have done : ∀ {v' H' N'} {ns l : List Int}, Built H' N 1 (.sl .nil 0 []) (intCells ns) v' → (∀ j, j < N → H' j = H j) → N ≤ N' → l = ns → (N ≤ N' ∧ (∀ j, j < N → H' j = H j) ∧ Built H' N 1 (.sl .nil 0 []) (intCells l) v') :=
    fun h1 h2 h3 h4 => ⟨h3, h2, h4 ▸ h1⟩
  by_cases hA : x.op = 2 ∨ x.op = 3 ∨ x.op = 9 ∨ x.op = 12 ∨ x.op = 13
  · obtain ⟨v', H', N', happ, hB, hold, hN, hF'⟩ := one x.a
    rcases hA with h | h | h | h | h <;>
    · simp [a_bobbinref07_Reads, h, happ, cells_i64, hB.rd.cells, -AV.cells]
      refine done hB hold hN ?_
      simp [readsL, readsA, readsB, readsC, ofR_a, ofR_b, ofR_bare, ofR_n, h]
  · by_cases h4 : x.op = 4
    · obtain ⟨v', H', N', happ, hB, hold, hN, hF'⟩ := app_nil (ns := [x.a, x.b]) (y := .sl .exact 1 [[i64 x.a], [i64 x.b]]) hF rfl (by simp)
      simp [a_bobbinref07_Reads, h4, happ, cells_i64, hB.rd.cells, -AV.cells]
      refine done hB hold hN ?_
      simp [readsL, readsA, readsB, readsC, ofR_a, ofR_b, ofR_bare, ofR_n, h4]
    · by_cases h5 : x.op = 5
      · by_cases ha : x.a = -1
        · simp [a_bobbinref07_Reads, h5, ha]
          rw [show readsL x = [] from ?_]; exact Built.nil
          simp [readsL, readsA, readsB, readsC, ofR_a, ofR_b, ofR_bare, ofR_n, h5, ha]
        · obtain ⟨v', H', N', happ, hB, hold, hN, hF'⟩ := one x.a
          simp [a_bobbinref07_Reads, h5, ha, happ, cells_i64, hB.rd.cells, -AV.cells]
          refine done hB hold hN ?_
          simp [readsL, readsA, readsB, readsC, ofR_a, ofR_b, ofR_bare, ofR_n, h5, ha]
      · by_cases h6 : x.op = 6
        · by_cases ha : x.a = -1
          · obtain ⟨v', H', N', happ, hB, hold, hN, hF'⟩ := one x.b
            simp [a_bobbinref07_Reads, h6, ha, happ, cells_i64, hB.rd.cells, -AV.cells]
            refine done hB hold hN ?_
            simp [readsL, readsA, readsB, readsC, ofR_a, ofR_b, ofR_bare, ofR_n, h6, ha]
          · obtain ⟨v', H', N', happ, hB, hold, hN, hF'⟩ := one x.a
            obtain ⟨v2, H2, N2, happ2, hB2, hold2, hN2, hF2⟩ := app_ints (ns := [x.b]) hB hF' hN (asrc_one H' x.b) (by simp)
            simp [a_bobbinref07_Reads, h6, ha, happ, happ2, cells_i64, hB.rd.cells, hB2.rd.cells, -AV.cells]
            refine done hB2 (fun j hj => (hold2 j hj).trans (hold j hj)) (by omega) ?_
            simp [readsL, readsA, readsB, readsC, ofR_a, ofR_b, ofR_bare, ofR_n, h6, ha]
        · by_cases h10 : x.op = 10
          · obtain ⟨v', H', N', happ, hB, hold, hN, hF'⟩ := app_nil (ns := x.args) hF (hx.src H) (by omega)
            simp [a_bobbinref07_Reads, h10, happ, hB.rd.cells, -AV.cells]
            refine done hB hold hN ?_
            simp [readsL, readsA, readsB, readsC, ofR_a, ofR_b, ofR_bare, ofR_n, h10]
          · simp only [not_or] at hA
            simp [a_bobbinref07_Reads, hA, h4, h5, h6, h10]
            rw [show readsL x = [] from ?_]; exact Built.nil
            have h6' : ¬ (ofR x.op).n = 6 := by
              rw [ofR_n]; repeat' split
              all_goals omega
            simp only [readsL, readsA, readsB, readsC, h6', ofR_a, ofR_b]
            simp [hA, h4, h5, h6]

theorem p_refWrites (x : Ins) : PCall Tryz.prog 83 [.agg x.cells] (.tup [i64 (if (ofR x.op).r = true then x.r else 0), bl (ofR x.op).r]) := by
  refine PCall.of fun N => acall mixed c_bobbinref07_Writes (by simp) ?_
  by_cases h : x.op = 1 ∨ x.op = 2 ∨ x.op = 3 ∨ x.op = 4 ∨ x.op = 5 ∨ x.op = 10
  · have hr : (ofR x.op).r = true := by rw [ofR_r]; simp [h]
    rcases h with h | h | h | h | h | h <;>
    · simp [a_bobbinref07_Writes, h, hr]
      rw [h] at hr
      simp [hr]
      exact .free rfl
  · have hr : (ofR x.op).r = false := by rw [ofR_r]; simp [h]
    simp only [not_or] at h
    simp [a_bobbinref07_Writes, h, hr]
    exact .free rfl

theorem p_refwithin (n m : Int) : PCall Tryz.prog 84 [i64 n, i64 m] (bl (within n m)) := by
  refine PCall.of fun N => acall mixed c_bobbinref07_within (by simp) ?_
  by_cases h : 0 ≤ n
  · simp [a_bobbinref07_within, h, within]; exact .free rfl
  · simp [a_bobbinref07_within, h, within]; exact .free rfl

theorem Ins.Ok.elem {x : Ins} (hx : x.Ok) {j : Nat} (h : j < x.args.length) : aindex 1 (.sl x.k x.z (intCells x.args)) (i64 j) = some (.ip [i64 x.args[j]] 0) := by
  have hz : x.z = 1 := hx.hz.resolve_right fun h0 => by rw [h0] at h; simp at h
  rw [hz]
  exact aindex_sl (by omega) (by simpa using intCells_at h)

theorem p_refSameIns (x y : Ins) (hx : x.Ok) (hy : y.Ok) : PCall Tryz.prog 65 [.agg x.cells, .agg y.cells] (bl (sameIns x y)) := by
  have hm : maxLen = 9223372036854775807 := rfl
  refine PCall.of fun N => acall mixed c_bobbinref07_SameIns (by simp) ?_
  by_cases h1 : x.op = y.op
  · by_cases h2 : x.r = y.r
    · by_cases h3 : x.a = y.a
      · by_cases h4 : x.b = y.b
        · by_cases h5 : x.n = y.n
          · by_cases h6 : x.args.length = y.args.length
            · have hlx := hx.len
              have hla := (hx.rd noHeap).len
              have hlb := (hy.rd noHeap).len
              rw [intCells_len] at hla hlb
              simp [a_bobbinref07_SameIns, h1, h2, h3, h4, h5, h6, hla, hlb, -alen]
              refine run_loop (fun m s => ∃ j, j ≤ x.args.length ∧ m = x.args.length - j ∧ s.A 2 = .ip x.cells 0 ∧ s.A 3 = .ip y.cells 0 ∧ s.A 5 = i64 j ∧ s.H = noHeap ∧ x.args.take j = y.args.take j) x.args.length ?_ ?_
              · exact ⟨0, by omega, by omega, by simp, by simp, by simp, by simp, by simp⟩
              · rintro m A H1 N1 ⟨j, hj, rfl, ha, hb, hc, rfl, heq⟩
                simp only at ha hb hc
                by_cases hjl : j = x.args.length
                · subst hjl
                  have : x.args = y.args := by rw [List.take_length, h6, List.take_length] at heq; exact heq
                  simp [a_bobbinref07_SameInsb1, ha, hb, hc, intCells_len]
                  simp [sameIns, h1, h2, h3, h4, h5, this]
                  exact .free rfl
                · have hlt : j < x.args.length := by omega
                  have hlt2 : j < y.args.length := by omega
                  have hp := hx.elem hlt
                  have hq := hy.elem hlt2
                  by_cases hv : x.args[j] = y.args[j]
                  · simp [a_bobbinref07_SameInsb1, ha, hb, hc, hlt, intCells_len, hp, hq, hv]
                    refine ⟨x.args.length - (j + 1), by omega, j + 1, by omega, rfl, by rw [wrap_i64 (by omega) (by omega)]; rfl, ?_⟩
                    rw [take_next hlt, take_next hlt2, heq, hv]
                  · have : x.args ≠ y.args := fun h => hv (by simp [h])
                    simp [a_bobbinref07_SameInsb1, ha, hb, hc, hlt, intCells_len, hp, hq, hv]
                    simp [sameIns, this]
                    exact .free rfl
            · have hla := (hx.rd noHeap).len
              have hlb := (hy.rd noHeap).len
              rw [intCells_len] at hla hlb
              have : x.args ≠ y.args := fun h => h6 (by rw [h])
              simp [a_bobbinref07_SameIns, h1, h2, h3, h4, h5, hla, hlb, show ¬ ((x.args.length : Int) = y.args.length) by omega, -alen]
              simp [sameIns, this]
              exact .free rfl
          · simp [a_bobbinref07_SameIns, h1, h2, h3, h4, h5, sameIns]; exact .free rfl
        · simp [a_bobbinref07_SameIns, h1, h2, h3, h4, sameIns]; exact .free rfl
      · simp [a_bobbinref07_SameIns, h1, h2, h3, sameIns]; exact .free rfl
    · simp [a_bobbinref07_SameIns, h1, h2, sameIns]; exact .free rfl
  · simp [a_bobbinref07_SameIns, h1, sameIns]; exact .free rfl

end
end Go.Proofs.YtefejpckppabpaaGreatDoor
