/- bytes: the law BytesMay. -/
import Derived.Test.YtefejpckppabpaaGreatDoorW6
import Derived.Test.YtefejpckppabpaaGreatDoorB6
import Derived.Test.YtefejpckppabpaaGreatDoorKL
import Derived.Test.YtefejpckppabpaaGreatDoorBA
namespace Go.Proofs.YtefejpckppabpaaGreatDoor
set_option linter.unusedSimpArgs false
set_option linter.unusedVariables false
open Go Go.Fw

section
variable {p : ImgV} {A : Nat → AV} {H : AHeap} {N : Nat} {fs : List Fr} {Q : Post} {n : Int}
theorem bl_m (hp : p.Ok) (hn0 : 0 ≤ n) (hn1 : n ≤ 1125899906842624) (h1 : A 1 = .ip p.cells 0) (h3 : A 3 = i64 n) (h4 : A 4 = i64 0) (hk : ∀ A' n', n ≤ n' → n' ≤ 1125899906842624 → A' 1 = A 1 → A' 3 = i64 n' → onward Tryz.prog fs Q (.exit 0) ⟨A', H, N⟩) : run Tryz.prog (.loop a_bobbinlaw29_largeb3) fs Q ⟨A, H, N⟩ := by
  have hl := hp.ml
  refine run_loop (fun m s => ∃ (j : Nat) (n' : Int), n ≤ n' ∧ n' ≤ 1125899906842624 ∧ j ≤ p.mems.length ∧ m = p.mems.length - j ∧ s.A 1 = A 1 ∧ s.A 3 = i64 n' ∧ s.A 4 = i64 j ∧ s.H = H ∧ s.N = N) p.mems.length ?_ ?_
  · exact ⟨0, n, by omega, by omega, by omega, by omega, rfl, h3, h4, rfl, rfl⟩
  · rintro m A1 H1 N1 ⟨j, n', hg1, hg2, hj, rfl, e1, e3, e4, rfl, rfl⟩
    simp only at e1 e3 e4
    have d1 := e1.trans h1
    by_cases hjl : j = p.mems.length
    · simp [a_bobbinlaw29_largeb3, d1, e3, e4, hjl]
      exact hk _ n' hg1 hg2 (by simp [e1]) (by simp [e3])
    · have hlt : j < p.mems.length := by omega
      by_cases hn : n' < 4000
      · obtain ⟨x, hx⟩ : ∃ x, p.mems[j] = x := ⟨_, rfl⟩
        have hq : aindex 3 (.sl p.mmk 3 (memCells p.mems)) (i64 (j : Nat)) = some (.ip x.cells 0) := aindex_sl (by omega) (by simp [memCells, hlt, hx])
        have hsz : x.name.size ≤ 140737488355328 := hp.mn _ (by rw [← hx]; exact List.getElem_mem hlt)
        simp [a_bobbinlaw29_largeb3, d1, e3, e4, hlt, hn, hq, MemV.cells]
        refine ⟨p.mems.length - (j + 1), by omega, j + 1, n' + x.name.size / 64, by omega, by omega, by omega, rfl, by simp [h1], ?_, ?_⟩
        · rw [wrap_i64 (n := (x.name.size : Int) / 64) (by omega) (by omega), wrap_i64 (by omega) (by omega)]
        · rw [wrap_i64 (by omega) (by omega)]; rfl
      · simp [a_bobbinlaw29_largeb3, d1, e3, e4, hlt, hn]
        exact hk _ n' hg1 hg2 (by simp [e1]) (by simp [e3])
theorem bl_l (hp : p.Ok) (hn0 : 0 ≤ n) (hn1 : n ≤ 1125899906842624) (h1 : A 1 = .ip p.cells 0) (h3 : A 3 = i64 n) (h5 : A 5 = i64 0) (hk : ∀ A' n', n ≤ n' → n' ≤ 1125899906842624 → A' 1 = A 1 → A' 3 = i64 n' → onward Tryz.prog fs Q (.exit 2) ⟨A', H, N⟩) : run Tryz.prog (.loop a_bobbinlaw29_largeb2) fs Q ⟨A, H, N⟩ := by
  have hl := hp.ll
  refine run_loop (fun m s => ∃ (j : Nat) (n' : Int), n ≤ n' ∧ n' ≤ 1125899906842624 ∧ j ≤ p.locks.length ∧ m = p.locks.length - j ∧ s.A 1 = A 1 ∧ s.A 3 = i64 n' ∧ s.A 5 = i64 j ∧ s.H = H ∧ s.N = N) p.locks.length ?_ ?_
  · exact ⟨0, n, by omega, by omega, by omega, by omega, rfl, h3, h5, rfl, rfl⟩
  · rintro m A1 H1 N1 ⟨j, n', hg1, hg2, hj, rfl, e1, e3, e4, rfl, rfl⟩
    simp only at e1 e3 e4
    have d1 := e1.trans h1
    by_cases hjl : j = p.locks.length
    · simp [a_bobbinlaw29_largeb2, d1, e3, e4, hjl]
      exact hk _ n' hg1 hg2 (by simp [e1]) (by simp [e3])
    · have hlt : j < p.locks.length := by omega
      by_cases hn : n' < 4000
      · obtain ⟨x, hx⟩ : ∃ x, p.locks[j] = x := ⟨_, rfl⟩
        have hq : aindex 1 (.sl p.lk 1 (lockCells p.locks)) (i64 (j : Nat)) = some (.ip [str x] 0) := aindex_sl (by omega) (by simp [lockCells, hlt, hx])
        have hsz : x.size ≤ 140737488355328 := hp.ln _ (by rw [← hx]; exact List.getElem_mem hlt)
        simp [a_bobbinlaw29_largeb2, d1, e3, e4, hlt, hn, hq]
        refine ⟨p.locks.length - (j + 1), by omega, j + 1, n' + x.size / 64, by omega, by omega, by omega, rfl, by simp [h1], ?_, ?_⟩
        · rw [wrap_i64 (n := (x.size : Int) / 64) (by omega) (by omega), wrap_i64 (by omega) (by omega)]
        · rw [wrap_i64 (by omega) (by omega)]; rfl
      · simp [a_bobbinlaw29_largeb2, d1, e3, e4, hlt, hn]
        exact hk _ n' hg1 hg2 (by simp [e1]) (by simp [e3])
theorem bl_u (hp : p.Ok) (hn0 : 0 ≤ n) (hn1 : n ≤ 1125899906842624) (h1 : A 1 = .ip p.cells 0) (h3 : A 3 = i64 n) (h6 : A 6 = i64 0) (hk : ∀ A' n', n ≤ n' → (n' < 4000 → p.units.length ≤ 800) → A' 1 = A 1 → A' 3 = i64 n' → onward Tryz.prog fs Q (.exit 4) ⟨A', H, N⟩) : run Tryz.prog (.loop a_bobbinlaw29_largeb1) fs Q ⟨A, H, N⟩ := by
  have hl := hp.ul
  refine run_loop (fun m s => ∃ (j : Nat) (n' : Int), n + 5 * j ≤ n' ∧ n' ≤ 1125899906842624 + 400000000000000 ∧ j ≤ p.units.length ∧ m = p.units.length - j ∧ s.A 1 = A 1 ∧ s.A 3 = i64 n' ∧ s.A 6 = i64 j ∧ s.H = H ∧ s.N = N) p.units.length ?_ ?_
  · exact ⟨0, n, by omega, by omega, by omega, by omega, rfl, h3, h6, rfl, rfl⟩
  · rintro m A1 H1 N1 ⟨j, n', hg1, hg2, hj, rfl, e1, e3, e4, rfl, rfl⟩
    simp only at e1 e3 e4
    have d1 := e1.trans h1
    by_cases hjl : j = p.units.length
    · simp [a_bobbinlaw29_largeb1, d1, e3, e4, hjl]
      exact hk _ n' (by omega) (by omega) (by simp [e1]) (by simp [e3])
    · have hlt : j < p.units.length := by omega
      by_cases hn : n' < 4000
      · obtain ⟨x, hx⟩ : ∃ x, p.units[j] = x := ⟨_, rfl⟩
        have hxo := hp.ok x (by rw [← hx]; exact List.getElem_mem hlt)
        have hnm := hxo.nm
        have hol := hxo.ol
        have hq : aindex 6 (.sl p.uk 6 (unitCells p.units)) (i64 (j : Nat)) = some (.ip x.cells 0) := aindex_sl (by omega) (by simp [unitCells, hlt, hx])
        have w1 : IntKind.i64.wrap ((x.name.size : Int) / 64) = (x.name.size : Int) / 64 := wrap_i64 (by omega) (by omega)
        have w2 : IntKind.i64.wrap (n' + 5) = n' + 5 := wrap_i64 (by omega) (by omega)
        have w3 : IntKind.i64.wrap (n' + 5 + (x.name.size : Int) / 64) = n' + 5 + (x.name.size : Int) / 64 := wrap_i64 (by omega) (by omega)
        have w4 : IntKind.i64.wrap (n' + 5 + (x.name.size : Int) / 64 + x.ops.length) = n' + 5 + (x.name.size : Int) / 64 + x.ops.length := wrap_i64 (by omega) (by omega)
        have w5 : IntKind.i64.wrap ((j : Int) + 1) = ((j + 1 : Nat) : Int) := by rw [wrap_i64 (by omega) (by omega)]; rfl
        simp [a_bobbinlaw29_largeb1, d1, e3, e4, hlt, hn, hq, w1, w2, w3, w4, w5]
        exact ⟨p.units.length - (j + 1), by omega, j + 1, n' + 5 + x.name.size / 64 + x.ops.length, by omega, by omega, by omega, rfl, by simp [h1], rfl, rfl⟩
      · simp [a_bobbinlaw29_largeb1, d1, e3, e4, hlt, hn]
        exact hk _ n' (by omega) (by omega) (by simp [e1]) (by simp [e3])
end

theorem a_large29 {p : ImgV} (hp : p.Ok) (H : AHeap) (N : Nat) : ACall Tryz.prog 6 [.agg p.cells] H N (fun r H' N' => H' = H ∧ N' = N ∧ ∃ b, r = bl b ∧ (b = false → p.mems.length + p.locks.length + p.units.length ≤ 1000000000)) := by
  have hml := hp.ml
  have hll := hp.ll
  refine acall mixed c_bobbinlaw29_large (by simp) ?_
  unfold a_bobbinlaw29_large
  obtain ⟨_, e1⟩ : ∃ c, a_bobbinlaw29_largeb1 = c := ⟨_, rfl⟩
  rw [e1]
  obtain ⟨_, e2⟩ : ∃ c, a_bobbinlaw29_largeb2 = c := ⟨_, rfl⟩
  rw [e2]
  obtain ⟨_, e3⟩ : ∃ c, a_bobbinlaw29_largeb3 = c := ⟨_, rfl⟩
  rw [e3]
  have w1 : IntKind.i64.wrap ((p.mems.length : Int) + p.locks.length) = (p.mems.length : Int) + p.locks.length := wrap_i64 (by omega) (by omega)
  simp [w1]
  rw [← e3]
  refine bl_m (p := p) (n := (p.mems.length : Int) + p.locks.length) hp (by omega) (by omega) (by simp) (by simp) (by simp) (fun A1 n1 q1 q2 g1 g3 => ?_)
  simp at g1
  simp
  rw [← e2]
  refine bl_l (p := p) (n := n1) hp (by omega) (by omega) (by simp [g1]) (by simp [g3]) (by simp) (fun A2 n2 q3 q4 k1 k3 => ?_)
  simp [g1] at k1
  simp
  rw [← e1]
  refine bl_u (p := p) (n := n2) hp (by omega) (by omega) (by simp [k1]) (by simp [k3]) (by simp) (fun A3 n3 q5 q6 m1 m3 => ?_)
  by_cases hn : 4000 ≤ n3
  · simp [m3, hn]
  · simp [m3, hn]
    have := q6 (by omega)
    omega
theorem eqvL_refl {α : Type} {r : α → α → Bool} (h : ∀ x, r x x = true) (l : List α) : eqvL r l l = true := eqvL_iff.2 ⟨rfl, fun i _ _ => h _⟩
theorem sameU_refl (x : UnitV) : sameU x x = true := by
  unfold sameU
  rw [eqvL_refl (r := sameOp) (fun p => by simp [sameOp])]
  simp
theorem sameImg_refl (x : ImgV) : sameImg x x = true := by
  unfold sameImg
  rw [eqvL_refl (r := sameU) sameU_refl, eqvL_refl (r := memE) (fun p => by simp [memE]), eqvL_refl (r := strE) (fun p => by simp [strE])]
  rfl

/-- What Heights hand out reads as numbers. -/
theorem htAns_is {m : ImgV} (hm : m.Ok) (k : Int) : ∃ v l e, htAns m k = .tup [v, i64 e] ∧ (∀ {H : AHeap}, RdSl H 1 (intCells l) v) ∧ l.length ≤ maxLen := by
  have h9 : maxLen = 9223372036854775807 := rfl
  by_cases hc : (imgB m && within k m.units.length) = true
  · refine ⟨_, htL m k, 0, if_pos hc, .sl _, ?_⟩
    unfold htL
    split
    · rename_i u hu
      have := (hm.ok u (List.mem_of_getElem? hu)).ol
      unfold Stk.outL
      simp [stkB]
      omega
    · simp
  · exact ⟨_, [], 4, if_neg hc, .nil _ _, by simp⟩

theorem p_BytesMay {a b : ImgV} {n : Int} (ha : a.Ok) (hb : b.Ok) (H : AHeap) (N : Nat) : ACall Tryz.prog 3 [.agg a.cells, .agg b.cells, i64 n] H N (fun r _ _ => r = bl true) := by
  refine acall mixed c_bobbinlaw29_BytesMay (by simp) ?_
  unfold a_bobbinlaw29_BytesMay
  obtain ⟨_, e1⟩ : ∃ c, a_bobbinlaw29_BytesMayb1 = c := ⟨_, rfl⟩
  rw [e1]
  simp
  refine (a_large29 ha H N).mono ?_
  rintro r H1 N1 ⟨rfl, rfl, c, rfl, hc⟩
  cases c with
  | true => simp
  | false =>
    have hfa := hc rfl
    simp
    refine (a_large29 hb _ _).mono ?_
    rintro r H2 N2 ⟨rfl, rfl, d, rfl, hd⟩
    cases d with
    | true => simp
    | false =>
      have hfb := hd rfl
      simp
      refine (p_bMay ha hfa).acall ?_
      simp
      refine (p_rbMay ha hfa).acall ?_
      simp
      refine (p_bSame ha hb).acall ?_
      simp
      refine (p_rbSame ha hb).acall ?_
      simp
      refine (p_bSame ha ha).acall ?_
      rw [sameImg_refl]
      simp
      rw [← e1]
      have hul := ha.ul
      refine run_loop (fun w s => ∃ i : Int, -1 ≤ i ∧ i ≤ a.units.length + 1 ∧ w = (a.units.length + 1 - i).toNat ∧ s.A 2 = i64 n ∧ s.A 3 = .ip a.cells 0 ∧ s.A 7 = i64 i) (a.units.length + 2) ?_ ?_
      · exact ⟨-1, by omega, by omega, by omega, by simp, by simp, by simp⟩
      · rintro w A1 H1 N1 ⟨i, hi1, hi2, rfl, f2, f3, f7⟩
        simp only at f2 f3 f7
        have hw : IntKind.i64.wrap (i + 1) = i + 1 := wrap_i64 (by omega) (by omega)
        by_cases hile : i ≤ a.units.length
        · by_cases hi30 : i < 30
          · by_cases hneg : i < 0
            · obtain ⟨v, l, e, hv, hl, hlen⟩ := htAns_is ha n
              simp [a_bobbinlaw29_BytesMayb1, f2, f3, f7, hile, hi30, hneg]
              refine (p_bHeights ha hfa).acall ?_
              simp [hv, f2, f3, f7]
              refine (p_rbHeights ha hfa).acall ?_
              simp [hv]
              refine (p_Ints (la := l) (lb := l) hl hl hlen _).mono ?_
              rintro r H3 N3 ⟨rfl, rfl, rfl⟩
              simp [f2, f3, f7, hw]
              exact ⟨(a.units.length + 1 - (i + 1)).toNat, by omega, i + 1, by omega, by omega, rfl, rfl⟩
            · obtain ⟨v, l, e, hv, hl, hlen⟩ := htAns_is ha i
              simp [a_bobbinlaw29_BytesMayb1, f2, f3, f7, hile, hi30, hneg]
              refine (p_bHeights ha hfa).acall ?_
              simp [hv, f2, f3, f7]
              refine (p_rbHeights ha hfa).acall ?_
              simp [hv]
              refine (p_Ints (la := l) (lb := l) hl hl hlen _).mono ?_
              rintro r H3 N3 ⟨rfl, rfl, rfl⟩
              simp [f2, f3, f7, hw]
              exact ⟨(a.units.length + 1 - (i + 1)).toNat, by omega, i + 1, by omega, by omega, rfl, rfl⟩
          · simp [a_bobbinlaw29_BytesMayb1, f3, f7, hile, hi30]
        · simp [a_bobbinlaw29_BytesMayb1, f3, f7, hile]
end Go.Proofs.YtefejpckppabpaaGreatDoor
