/- code: the law CodeThreads. -/
import Derived.Test.YtanpcmkhhpaeiaaDoorNO
namespace Go.Proofs.YtanpcmkhhpaeiaaDoor
set_option linter.unusedSimpArgs false
set_option linter.unusedVariables false
open Go Go.Fw

theorem thrL_pre (l : List FunV) (j : Nat) : ∃ r, thrL l = thrL (l.take j) ++ r := by
  refine ⟨(((l.drop j).zipIdx (l.take j).length).filter fun x => x.1.thread).map fun x => (x.2 : Int), ?_⟩
  unfold thrL
  conv => lhs; rw [← List.take_append_drop j l]
  rw [List.zipIdx_append, List.filter_append, List.map_append, Nat.zero_add]
theorem thrL_at {l : List FunV} {j : Nat} (h : j < l.length) (ht : l[j].thread = true) : ∃ h2 : (thrL (l.take j)).length < (thrL l).length, (thrL l)[(thrL (l.take j)).length] = (j : Int) := by
  obtain ⟨r, e⟩ := thrL_pre l (j + 1)
  rw [thrL_next h, if_pos ht, List.append_assoc] at e
  have h2 : (thrL (l.take j)).length < (thrL l).length := by rw [e]; simp
  refine ⟨h2, ?_⟩
  have : (thrL l)[(thrL (l.take j)).length]? = some (j : Int) := by rw [e]; simp
  rw [List.getElem?_eq_getElem h2] at this
  exact Option.some.inj this

section
variable {p : PrgV} {A : Nat → AV} {H : AHeap} {N : Nat} {fs : List Fr} {Q : Post} {v w z : AV} {lo : Nat}

theorem thr_a (hl : p.funs.length ≤ 200) (h2 : A 2 = .ip p.cells 0) (h5 : A 5 = v) (h6 : A 6 = i64 0) (hB : RdSl H 1 (intCells (thrL p.funs)) v)
    (hk : ∀ A', A' 3 = A 3 → A' 5 = v → A' 6 = i64 (thrL p.funs).length → onward Tryd.prog fs Q .normal ⟨A', H, N⟩) : run Tryd.prog a_thr_a fs Q ⟨A, H, N⟩ := by
  have hlen := hB.len
  rw [intCells_len] at hlen
  have hthr := thrL_len p.funs
  have hfl : alen 1 (.sl p.fk 5 (funCells p.funs)) = some (p.funs.length : Int) := by simp [alen, funCells]
  have l2 : ∀ X, aload X false 1 (.ip p.cells 2) = some (.sl p.fk 5 (funCells p.funs)) := fun X => by simp [aload, apart, PrgV.cells]
  have l1 : ∀ X (f : FunV), aload X false 1 (.ip f.cells 1) = some (bl f.thread) := fun X f => by simp [aload, apart, FunV.cells]
  simp [a_thr_a]
  refine run_loop (fun m s => ∃ j, j ≤ p.funs.length ∧ m = p.funs.length - j ∧ s.A 2 = .ip p.cells 0 ∧ s.A 3 = A 3 ∧ s.A 5 = v ∧ s.A 6 = i64 (thrL (p.funs.take j)).length ∧ s.A 7 = i64 j ∧ s.H = H ∧ s.N = N) p.funs.length ?_ ?_
  · exact ⟨0, by omega, by omega, by simp [h2], by simp, by simp [h5], by simp [h6, thrL], by simp, rfl, rfl⟩
  · rintro m A1 H1 N1 ⟨j, hj, rfl, e2, e3, e5, e6, e7, rfl, rfl⟩
    simp only at e2 e3 e5 e6 e7
    by_cases hjl : j = p.funs.length
    · simp [a_bobbinlaw07_CodeThreadsb3, e2, e5, e6, e7, hjl, hfl, -alen]
      exact hk _ (by simp [e3]) (by simp [e5]) (by simp [e6, hjl])
    · have hlt : j < p.funs.length := by omega
      have hq : aindex 5 (.sl p.fk 5 (funCells p.funs)) (i64 j) = some (.ip p.funs[j].cells 0) := elem_of hlt
      have hnext : thrL (p.funs.take (j + 1)) = _ := thrL_next hlt
      cases ht : p.funs[j].thread with
      | false =>
        rw [ht, if_neg (by simp)] at hnext
        simp [a_bobbinlaw07_CodeThreadsb3, e2, e5, e6, e7, hlt, hq, ht]
        refine ⟨p.funs.length - (j + 1), by omega, j + 1, by omega, rfl, e3, by rw [hnext], ?_⟩
        rw [wrap_i64 (by omega) (by omega)]; rfl
      | true =>
        obtain ⟨g1, g2⟩ := thrL_at hlt ht
        rw [ht, if_pos rfl] at hnext
        have hle : (thrL (p.funs.take (j + 1))).length = (thrL (p.funs.take j)).length + 1 := by rw [hnext]; simp
        obtain ⟨q, hq1, hq2⟩ := hB.at (intCells_sz _) (intCells_at g1)
        rw [g2] at hq2
        have hq3 := hq2.one
        simp [a_bobbinlaw07_CodeThreadsb3, e2, e5, e6, e7, hlt, hq, ht, hfl, hlen, show ¬ ((thrL p.funs).length : Int) ≤ (thrL (p.funs.take j)).length by omega, hq1, hq3, l1, l2, -alen, -aload]
        refine ⟨p.funs.length - (j + 1), by omega, j + 1, by omega, rfl, e3, ?_, ?_⟩
        · rw [wrap_i64 (by omega) (by omega), hle]; push_cast; rfl
        · rw [wrap_i64 (by omega) (by omega)]; rfl

theorem thr_b {l : List Int} (hl : l.length ≤ 1000) (h8 : A 8 = v) (hB : Built H lo 1 z (intCells l) v)
    (hk : ∀ A' H', (∀ t ∈ [3, 5, 6, 9], A' t = A t) → (∀ j, (∀ n, v ≠ .ms j 0 n 1) → H' j = H j) → onward Tryd.prog fs Q .normal ⟨A', H', N⟩) : run Tryd.prog a_thr_b fs Q ⟨A, H, N⟩ := by
  have hL := hB.rd.len
  rw [intCells_len] at hL
  simp [a_thr_b]
  refine run_loop (fun m s => ∃ j, j ≤ l.length ∧ m = l.length - j ∧ (∀ t ∈ [3, 5, 6, 9], s.A t = A t) ∧ s.A 8 = v ∧ s.A 10 = i64 j ∧ s.N = N ∧ (∀ j, (∀ n, v ≠ .ms j 0 n 1) → s.H j = H j) ∧ (l = [] ∨ ∃ id ds, v = .ms id 0 l.length 1 ∧ s.H id = some (.blk ds) ∧ ds.length = l.length)) l.length ?_ ?_
  · refine ⟨0, by omega, by omega, by simp, by simp [h8], by simp, rfl, fun _ _ => rfl, ?_⟩
    obtain ⟨b1, ⟨h0, _⟩ | ⟨_, id, _, rfl, hH⟩⟩ := hB
    · left; cases l with
      | nil => rfl
      | cons a l => cases h0
    · right
      exact ⟨id, _, by rw [intCells_len], hH, by rw [flatten_len b1, intCells_len, Nat.mul_one]⟩
  · rintro m A1 H1 N1 ⟨j, hj, rfl, ek, e8, e10, rfl, hkp, hcase⟩
    simp only at ek e8 e10 hkp hcase
    by_cases hjl : j = l.length
    · subst hjl
      simp [a_bobbinlaw07_CodeThreadsb2, e8, e10, hL, -alen]
      refine hk _ _ ?_ hkp
      intro t ht
      refine Eq.trans ?_ (ek t ht)
      simp only [List.mem_cons, List.not_mem_nil, or_false] at ht
      rcases ht with rfl | rfl | rfl | rfl <;> simp
    · have hlt : j < l.length := by omega
      rcases hcase with rfl | ⟨id, ds, rfl, hH, hds⟩
      · simp at hlt
      · have hq : aindex 1 (.ms id 0 l.length 1) (i64 j) = some (.mp id j) := by simp [aindex, hlt]
        have e3 := ek 3 (by simp)
        have e5 := ek 5 (by simp)
        have e6 := ek 6 (by simp)
        have e9 := ek 9 (by simp)
        simp [a_bobbinlaw07_CodeThreadsb2, e8, e10, hlt, hH, hq, hds, show j + 1 ≤ l.length by omega]
        refine ⟨l.length - (j + 1), by omega, j + 1, by omega, rfl, ⟨e3, e5, e6, e9⟩, ?_, ?_⟩
        · rw [wrap_i64 (by omega) (by omega)]; rfl
        · intro j' hne
          rw [if_neg (fun h => hne h.symm)]
          exact hkp j' (fun n h => hne (by injection h))

theorem thr_c {l : List Int} (hl : l.length ≤ 1000) (h9 : A 9 = w) (h11 : A 11 = v) (hw : RdSl H 1 (intCells l) w) (hv : RdSl H 1 (intCells l) v)
    (hk : ∀ A', A' 5 = A 5 → A' 6 = A 6 → onward Tryd.prog fs Q .normal ⟨A', H, N⟩) : run Tryd.prog a_thr_c fs Q ⟨A, H, N⟩ := by
  have hL := hv.len
  rw [intCells_len] at hL
  simp [a_thr_c]
  refine run_loop (fun m s => ∃ j, j ≤ l.length ∧ m = l.length - j ∧ s.A 5 = A 5 ∧ s.A 6 = A 6 ∧ s.A 9 = w ∧ s.A 11 = v ∧ s.A 12 = i64 j ∧ s.H = H ∧ s.N = N) l.length ?_ ?_
  · exact ⟨0, by omega, by omega, by simp, by simp, by simp [h9], by simp [h11], by simp, rfl, rfl⟩
  · rintro m A1 H1 N1 ⟨j, hj, rfl, e5, e6, e9, e11, e12, rfl, rfl⟩
    simp only at e5 e6 e9 e11 e12
    by_cases hjl : j = l.length
    · simp [a_bobbinlaw07_CodeThreadsb1, e9, e11, e12, hL, hjl, -alen]
      exact hk _ (by simp [e5]) (by simp [e6])
    · have hlt : j < l.length := by omega
      obtain ⟨q, hq, qq⟩ := hv.at (intCells_sz l) (intCells_at hlt)
      obtain ⟨q2, hq2, qq2⟩ := hw.at (intCells_sz l) (intCells_at hlt)
      have lq := qq.one
      have lq2 := qq2.one
      simp [a_bobbinlaw07_CodeThreadsb1, e9, e11, e12, hL, hlt, hq, hq2, lq, lq2, -alen, -aload]
      refine ⟨l.length - (j + 1), by omega, j + 1, by omega, rfl, e5, e6, ?_⟩
      rw [wrap_i64 (by omega) (by omega)]; rfl
end

theorem p_CodeThreads {p : PrgV} {x : Ins} (hp : p.Rch) (hx : x.Ok) (hxl : x.args.length ≤ 140737488355328) (H : AHeap) (N : Nat) :
    ACall Tryd.prog 3 [.agg p.cells, .agg x.cells] H N (fun r _ _ => r = bl true) := by
  refine acallF mixed c_bobbinlaw07_CodeThreads (by simp) fun hF => ?_
  unfold a_bobbinlaw07_CodeThreads
  obtain ⟨_, ea⟩ : ∃ c, a_thr_a = c := ⟨_, rfl⟩
  rw [ea]
  obtain ⟨_, eb⟩ : ∃ c, a_thr_b = c := ⟨_, rfl⟩
  rw [eb]
  obtain ⟨_, ec⟩ : ∃ c, a_thr_c = c := ⟨_, rfl⟩
  rw [ec]
  simp
  refine p_works.acall ?_
  by_cases h1 : 200 < p.funs.length
  · simp [show (200 : Int) < p.funs.length by omega]
    refine p_works.acall ?_
    simp
  · by_cases h2 : 200 < x.args.length
    · simp [show ¬ (200 : Int) < p.funs.length by omega, show (200 : Int) < x.args.length by omega, intCells_len]
      refine p_works.acall ?_
      simp
    · simp [show ¬ (200 : Int) < p.funs.length by omega, show ¬ (200 : Int) < x.args.length by omega, intCells_len]
      have hrl := readsL_len x
      refine (p_Threads (by omega) _ _).monoF ?_
      rintro v H1 N1 ⟨hN1, hk1, hB1⟩ hF1 _
      simp
      rw [← ea]
      refine thr_a (p := p) (v := v) (by omega) (by simp) (by simp) (by simp) hB1.rd fun A2 e3 e5 e6 => ?_
      simp [e3]
      refine (p_Reads hx (by omega) _ _).monoF ?_
      rintro va H3 N3 ⟨hN3, hk3, hB3⟩ hF3 _
      have hsrc := hB3.src
      rw [intCells_len] at hsrc
      obtain ⟨vw, H4, N4, happ, hB4, hk4, hN4, hF4⟩ := app_ints (l := []) (z := .sl .exact 1 []) (lo := N3) (v := .sl .exact 1 []) (H := H3) Built.empty hF3 (Nat.le_refl _) hsrc (by simp; omega)
      rw [List.nil_append] at hB4
      simp [happ]
      rw [← eb]
      refine thr_b (v := va) (l := readsL x) (by omega) (by simp) (built_after hB3 hF3 hk4) fun A5 H5 k5 k5h => ?_
      have f3 : A5 3 = A2 3 := (k5 3 (by simp)).trans (by simp)
      have f5 : A5 5 = A2 5 := (k5 5 (by simp)).trans (by simp)
      have f6 : A5 6 = A2 6 := (k5 6 (by simp)).trans (by simp)
      have f9 : A5 9 = vw := (k5 9 (by simp)).trans (by simp)
      have hva : ∀ j, N3 ≤ j → ∀ n, va ≠ .ms j 0 n 1 := by
        intro j hj n he
        obtain ⟨_, ⟨_, h0, ⟨k, h3⟩ | ⟨k, h3⟩⟩ | ⟨_, id, _, h0, hH⟩⟩ := hB3
        · rw [h0] at he; cases he
        · rw [h0] at he; cases he
        · rw [h0] at he
          have := hF3.lt hH
          injection he
          omega
      have hkeep : ∀ j, N3 ≤ j → H5 j = H4 j := fun j hj => k5h j (hva j hj)
      have hB5 := hB4.keep hkeep
      have hF5 : Fresh H5 N4 := fun j hj => (hkeep j (by omega)).trans (hF4 j hj)
      simp [f3, e3]
      refine (p_Reads hx (by omega) _ _).monoF ?_
      rintro vb H6 N6 ⟨hN6, hk6, hB6⟩ hF6 _
      have hB7 := built_after hB5 hF5 hk6
      have l7 := hB7.rd.len
      have l6 := hB6.rd.len
      rw [intCells_len] at l7 l6
      simp [f9, l7, l6, -alen]
      rw [← ec]
      refine thr_c (v := vb) (w := vw) (l := readsL x) (by omega) (by simp [f9]) (by simp) hB7.rd hB6.rd fun A7 g5 g6 => ?_
      have l1 := hB1.rd.len
      rw [intCells_len] at l1
      simp [g5, g6, f5, f6, e5, e6, l1, -alen]
end Go.Proofs.YtanpcmkhhpaeiaaDoor
