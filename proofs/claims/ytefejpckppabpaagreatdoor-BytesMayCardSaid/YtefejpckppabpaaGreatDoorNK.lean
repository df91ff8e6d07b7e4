/- code, the reference: which programs are the same. -/
import Derived.Test.YtefejpckppabpaaGreatDoorNJ
namespace Go.Proofs.YtefejpckppabpaaGreatDoor
set_option linter.unusedSimpArgs false
set_option linter.unusedVariables false
open Go Go.Fw

def headE (x y : FunV) : Prop := x.name = y.name ∧ x.thread = y.thread ∧ x.params = y.params ∧ x.regs = y.regs ∧ x.code.length = y.code.length
theorem sameFun_of {x y : FunV} (h : headE x y) : sameFun x y = eqvL sameIns x.code y.code := by
  obtain ⟨h1, h2, h3, h4, _⟩ := h
  simp only [sameFun, h1, h2, h3, h4, and_self, decide_true, Bool.true_and]
theorem sameFun_not {x y : FunV} (h : ¬ headE x y) : sameFun x y = false := by
  by_cases h5 : x.code.length = y.code.length
  · have : ¬ (x.name = y.name ∧ x.thread = y.thread ∧ x.params = y.params ∧ x.regs = y.regs) := fun h6 => h ⟨h6.1, h6.2.1, h6.2.2.1, h6.2.2.2, h5⟩
    simp only [sameFun, this, decide_false, Bool.false_and]
  · simp only [sameFun, eqvL_len h5, Bool.and_false]

section
variable {p q : PrgV} {x y : FunV} {A : Nat → AV} {H : AHeap} {N o u : Nat} {fs : List Fr} {Q : Post}

theorem refSame_h (h8 : A 8 = .mp o 0) (h9 : A 9 = .mp u 0) (hH : H o = some (.blk x.cells)) (hH2 : H u = some (.blk y.cells))
    (hk : headE x y → ∀ A', (∀ t, t ≤ 10 → A' t = A t) → onward Tryz.prog fs Q .normal ⟨A', H, N⟩)
    (hr : ¬ headE x y → ∀ A', A' 4 = bl false → onward Tryz.prog fs Q .ret ⟨A', H, N⟩) : run Tryz.prog a_refSame_h fs Q ⟨A, H, N⟩ := by
  by_cases h1 : x.name = y.name
  · by_cases h2 : x.thread = y.thread
    · by_cases h3 : x.params = y.params
      · by_cases h4 : x.regs = y.regs
        · by_cases h5 : x.code.length = y.code.length
          · simp [a_refSame_h, h8, h9, hH, hH2, h1, h2, h3, h4, h5]
            refine hk ⟨h1, h2, h3, h4, h5⟩ _ (fun t ht => ?_)
            (try simp only [upA]); repeat rw [if_neg (by omega)]
          · have := hr (fun h => h5 h.2.2.2.2)
            simp [a_refSame_h, h8, h9, hH, hH2, h1, h2, h3, h4, show ¬ ((x.code.length : Int) = y.code.length) by omega]
            exact this _ (by simp)
        · have := hr (fun h => h4 h.2.2.2.1)
          simp [a_refSame_h, h8, h9, hH, hH2, h1, h2, h3, h4]
          exact this _ (by simp)
      · have := hr (fun h => h3 h.2.2.1)
        simp [a_refSame_h, h8, h9, hH, hH2, h1, h2, h3]
        exact this _ (by simp)
    · have := hr (fun h => h2 h.2.1)
      have h6 : (x.thread == y.thread) = false := by simpa using h2
      simp [a_refSame_h, h8, h9, hH, hH2, h1, h2, h6]
      exact this _ (by simp)
  · have := hr (fun h => h1 h.1)
    simp [a_refSame_h, h8, h9, hH, hH2, h1]
    exact this _ (by simp)

theorem refSame_ins (hll : x.code.length = y.code.length) (hl : x.code.length ≤ maxLen) (hx : ∀ i ∈ x.code, i.Ok) (hy : ∀ i ∈ y.code, i.Ok) (h8 : A 8 = .mp o 0) (h9 : A 9 = .mp u 0) (hH : H o = some (.blk x.cells)) (hH2 : H u = some (.blk y.cells)) (h10 : A 10 = i64 0)
    (hk : eqvL sameIns x.code y.code = true → ∀ A', (∀ t, t ≤ 9 → A' t = A t) → onward Tryz.prog fs Q (.exit 6) ⟨A', H, N⟩)
    (hr : eqvL sameIns x.code y.code = false → ∀ A', A' 4 = bl false → onward Tryz.prog fs Q .ret ⟨A', H, N⟩) : run Tryz.prog (.loop a_bobbinref07_Sameb1) fs Q ⟨A, H, N⟩ := by
  have hm : maxLen = 9223372036854775807 := rfl
  refine run_loop (fun m s => ∃ j, j ≤ x.code.length ∧ m = x.code.length - j ∧ (∀ t, t ≤ 9 → s.A t = A t) ∧ s.A 10 = i64 j ∧ s.H = H ∧ s.N = N ∧ ∀ i (h : i < x.code.length) (h2 : i < y.code.length), i < j → sameIns x.code[i] y.code[i] = true) x.code.length ?_ ?_
  · exact ⟨0, by omega, by omega, fun _ _ => rfl, h10, rfl, rfl, fun i _ _ hi => by omega⟩
  · rintro m A1 H1 N1 ⟨j, hj, rfl, hA, e10, rfl, rfl, hok⟩
    simp only at hA e10 hH hH2
    have e8 := hA 8 (by omega)
    have e9 := hA 9 (by omega)
    rw [h8] at e8
    rw [h9] at e9
    by_cases hjl : j = x.code.length
    · subst hjl
      have hall := eqvL_iff.2 ⟨hll, fun i h h2 => hok i h h2 h⟩
      simp [a_bobbinref07_Sameb1, e8, e9, e10, hH, hH2]
      refine hk hall _ fun t ht => ?_
      refine Eq.trans ?_ (hA t ht)
      (try simp only [upA]); repeat rw [if_neg (by omega)]
    · have hlt : j < x.code.length := by omega
      have hlt2 : j < y.code.length := by omega
      obtain ⟨a, ha⟩ : ∃ a, x.code[j] = a := ⟨_, rfl⟩
      obtain ⟨b, hb⟩ : ∃ b, y.code[j] = b := ⟨_, rfl⟩
      have hix : aindex 6 (.sl x.k 6 (codeCells x.code)) (i64 j) = some (.ip a.cells 0) := aindex_sl (by omega) (by simp [codeCells, hlt, ha])
      have hiy : aindex 6 (.sl y.k 6 (codeCells y.code)) (i64 j) = some (.ip b.cells 0) := aindex_sl (by omega) (by simp [codeCells, hlt2, hb])
      simp [a_bobbinref07_Sameb1, e8, e9, e10, hH, hH2, hlt, hix, hiy]
      refine (p_refSameIns a b (hx a (by rw [← ha]; exact List.getElem_mem hlt)) (hy b (by rw [← hb]; exact List.getElem_mem hlt2))).acall ?_
      by_cases hs : sameIns a b = true
      · simp [hs, e10]
        refine ⟨x.code.length - (j + 1), by omega, j + 1, by omega, rfl, fun t ht => ?_, by rw [wrap_i64 (by omega) (by omega)]; rfl, fun i h h2 hij => ?_⟩
        · refine Eq.trans ?_ (hA t ht)
          (try simp only [upA]); repeat rw [if_neg (by omega)]
        · by_cases hij2 : i = j
          · subst hij2; rw [ha, hb]; exact hs
          · exact hok i h h2 (by omega)
      · have hf := eqvL_bad (r := sameIns) hlt hlt2 (by rw [ha, hb]; simpa using hs)
        simp [hs]
        exact hr hf _ (by simp)

theorem refSame_funs (hp : p.Cmp) (hq : q.Cmp) (hll : p.funs.length = q.funs.length) (h2 : A 2 = .ip p.cells 0) (h3 : A 3 = .ip q.cells 0) (h7 : A 7 = i64 0) (hF : Fresh H N)
    (hk : eqvL sameFun p.funs q.funs = true → ∀ A' H' N', onward Tryz.prog fs Q (.exit 4) ⟨A', H', N'⟩)
    (hr : eqvL sameFun p.funs q.funs = false → ∀ A' H' N', A' 4 = bl false → onward Tryz.prog fs Q .ret ⟨A', H', N'⟩) : run Tryz.prog (.loop a_bobbinref07_Sameb2) fs Q ⟨A, H, N⟩ := by
  have hm : maxLen = 9223372036854775807 := rfl
  have hfl := hp.fl
  refine run_loop (fun m s => ∃ j, j ≤ p.funs.length ∧ m = p.funs.length - j ∧ s.A 2 = .ip p.cells 0 ∧ s.A 3 = .ip q.cells 0 ∧ s.A 7 = i64 j ∧ Fresh s.H s.N ∧ ∀ i (h : i < p.funs.length) (h2 : i < q.funs.length), i < j → sameFun p.funs[i] q.funs[i] = true) p.funs.length ?_ ?_
  · exact ⟨0, by omega, by omega, h2, h3, h7, hF, fun i _ _ hi => by omega⟩
  · rintro m A1 H1 N1 ⟨j, hj, rfl, e2, e3, e7, hF1, hok⟩
    simp only at e2 e3 e7 hF1
    by_cases hjl : j = p.funs.length
    · subst hjl
      have hall := eqvL_iff.2 ⟨hll, fun i h h2 => hok i h h2 h⟩
      simp [a_bobbinref07_Sameb2, e2, e7]
      exact hk hall _ _ _
    · have hlt : j < p.funs.length := by omega
      have hlt2 : j < q.funs.length := by omega
      obtain ⟨x, hx⟩ : ∃ x, p.funs[j] = x := ⟨_, rfl⟩
      obtain ⟨y, hy⟩ : ∃ y, q.funs[j] = y := ⟨_, rfl⟩
      have hxm : x ∈ p.funs := by rw [← hx]; exact List.getElem_mem hlt
      have hym : y ∈ q.funs := by rw [← hy]; exact List.getElem_mem hlt2
      have hix : aindex 5 (.sl p.fk 5 (funCells p.funs)) (i64 j) = some (.ip x.cells 0) := aindex_sl (by omega) (by simp [funCells, hlt, hx])
      have hiy : aindex 5 (.sl q.fk 5 (funCells q.funs)) (i64 j) = some (.ip y.cells 0) := aindex_sl (by omega) (by simp [funCells, hlt2, hy])
      have hsx : ∀ z : FunV, splice 0 z.cells [AV.lit (Value.string ⟨#[]⟩), AV.lit (Value.bool false), AV.lit (Value.int .i64 0), AV.lit (Value.int .i64 0), AV.sl .nil 0 []] = z.cells := fun z => splice_full (by simp)
      have bad : sameFun x y = false → eqvL sameFun p.funs q.funs = false := fun h => eqvL_bad hlt hlt2 (by rw [hx, hy]; exact h)
      unfold a_bobbinref07_Sameb2
      obtain ⟨_, er⟩ : ∃ c, a_refSame_h = c := ⟨_, rfl⟩
      rw [er]
      simp [e2, e3, e7, hlt, hix, hiy, hsx]
      rw [← er]
      refine refSame_h (x := x) (y := y) (o := N1) (u := N1 + 1) (by simp) (by simp) (by simp [show N1 ≠ N1 + 1 by omega]) (by simp) (fun hh A2 hA2 => ?_) (fun hh A2 h4 => ?_)
      · have g2 := hA2 2 (by omega)
        have g3 := hA2 3 (by omega)
        have g7 := hA2 7 (by omega)
        have g8 := hA2 8 (by omega)
        have g9 := hA2 9 (by omega)
        simp [e2, e3, e7] at g2 g3 g7 g8 g9
        have hfun := sameFun_of hh
        simp
        refine refSame_ins (x := x) (y := y) (o := N1) (u := N1 + 1) hh.2.2.2.2 (hp.cl x hxm) (hp.ins x hxm) (hq.ins y hym) (by simp [g8]) (by simp [g9]) (by simp [show N1 ≠ N1 + 1 by omega]) (by simp) (by simp) (fun hall A3 hA3 => ?_) (fun hall A3 h4 => ?_)
        · have f2 := hA3 2 (by omega)
          have f3 := hA3 3 (by omega)
          have f7 := hA3 7 (by omega)
          simp [g2, g3, g7] at f2 f3 f7
          simp [f2, f3, f7]
          refine ⟨p.funs.length - (j + 1), by omega, j + 1, by omega, rfl, by rw [wrap_i64 (by omega) (by omega)]; rfl, ?_, fun i h h2 hij => ?_⟩
          · have := (hF1.set (.blk x.cells)).set (.blk y.cells)
            exact this
          · by_cases hij2 : i = j
            · subst hij2; rw [hx, hy, hfun]; exact hall
            · exact hok i h h2 (by omega)
        · simp
          exact hr (bad (by rw [hfun]; exact hall)) _ _ _ h4
      · simp
        exact hr (bad (sameFun_not hh)) _ _ _ h4

theorem refSame_mems (hl : p.mems.length ≤ maxLen) (hll : p.mems.length = q.mems.length) (h2 : A 2 = .ip p.cells 0) (h3 : A 3 = .ip q.cells 0) (h5 : A 5 = i64 0)
    (hk : eqvL memE p.mems q.mems = true → ∀ A', A' 2 = .ip p.cells 0 → A' 3 = .ip q.cells 0 → onward Tryz.prog fs Q (.exit 0) ⟨A', H, N⟩)
    (hr : eqvL memE p.mems q.mems = false → ∀ A', A' 4 = bl false → onward Tryz.prog fs Q .ret ⟨A', H, N⟩) : run Tryz.prog (.loop a_bobbinref07_Sameb4) fs Q ⟨A, H, N⟩ := by
  have hm : maxLen = 9223372036854775807 := rfl
  refine run_loop (fun m s => ∃ j, j ≤ p.mems.length ∧ m = p.mems.length - j ∧ s.A 2 = .ip p.cells 0 ∧ s.A 3 = .ip q.cells 0 ∧ s.A 5 = i64 j ∧ s.H = H ∧ s.N = N ∧ ∀ i (h : i < p.mems.length) (h2 : i < q.mems.length), i < j → memE p.mems[i] q.mems[i] = true) p.mems.length ?_ ?_
  · exact ⟨0, by omega, by omega, h2, h3, h5, rfl, rfl, fun i _ _ hi => by omega⟩
  · rintro m A1 H1 N1 ⟨j, hj, rfl, e2, e3, e5, rfl, rfl, hok⟩
    simp only at e2 e3 e5
    by_cases hjl : j = p.mems.length
    · subst hjl
      have hall := eqvL_iff.2 ⟨hll, fun i h h2 => hok i h h2 h⟩
      simp [a_bobbinref07_Sameb4, e2, e5]
      refine hk hall _ ?_ ?_ <;> simp [e2, e3]
    · have hlt : j < p.mems.length := by omega
      have hlt2 : j < q.mems.length := by omega
      obtain ⟨x, hx⟩ : ∃ x, p.mems[j] = x := ⟨_, rfl⟩
      obtain ⟨y, hy⟩ : ∃ y, q.mems[j] = y := ⟨_, rfl⟩
      have hix : aindex 3 (.sl p.mmk 3 (memCells p.mems)) (i64 j) = some (.ip x.cells 0) := aindex_sl (by omega) (by simp [memCells, hlt, hx])
      have hiy : aindex 3 (.sl q.mmk 3 (memCells q.mems)) (i64 j) = some (.ip y.cells 0) := aindex_sl (by omega) (by simp [memCells, hlt2, hy])
      have lx : ∀ z : MemV, List.take 3 z.cells = z.cells := fun _ => rfl
      have ly : ∀ z : MemV, z.cells.length = 3 := fun _ => rfl
      have he := memE_eqs x y
      by_cases hv : memE x y = true
      · simp [a_bobbinref07_Sameb4, e2, e3, e5, hlt, hix, hiy, lx, ly, he, hv, -eqsV]
        refine ⟨p.mems.length - (j + 1), by omega, j + 1, by omega, rfl, by rw [wrap_i64 (by omega) (by omega)]; rfl, fun i h h2 hij => ?_⟩
        by_cases hij2 : i = j
        · subst hij2; rw [hx, hy]; exact hv
        · exact hok i h h2 (by omega)
      · have hvf : memE x y = false := by simpa using hv
        have hf := eqvL_bad (r := memE) hlt hlt2 (by rw [hx, hy]; exact hvf)
        simp [a_bobbinref07_Sameb4, e2, e3, e5, hlt, hix, hiy, lx, ly, he, hvf, -eqsV]
        exact hr hf _ (by simp)

theorem refSame_locks (hl : p.locks.length ≤ maxLen) (hll : p.locks.length = q.locks.length) (h2 : A 2 = .ip p.cells 0) (h3 : A 3 = .ip q.cells 0) (h6 : A 6 = i64 0)
    (hk : eqvL strE p.locks q.locks = true → ∀ A', A' 2 = .ip p.cells 0 → A' 3 = .ip q.cells 0 → onward Tryz.prog fs Q (.exit 2) ⟨A', H, N⟩)
    (hr : eqvL strE p.locks q.locks = false → ∀ A', A' 4 = bl false → onward Tryz.prog fs Q .ret ⟨A', H, N⟩) : run Tryz.prog (.loop a_bobbinref07_Sameb3) fs Q ⟨A, H, N⟩ := by
  have hm : maxLen = 9223372036854775807 := rfl
  refine run_loop (fun m s => ∃ j, j ≤ p.locks.length ∧ m = p.locks.length - j ∧ s.A 2 = .ip p.cells 0 ∧ s.A 3 = .ip q.cells 0 ∧ s.A 6 = i64 j ∧ s.H = H ∧ s.N = N ∧ ∀ i (h : i < p.locks.length) (h2 : i < q.locks.length), i < j → strE p.locks[i] q.locks[i] = true) p.locks.length ?_ ?_
  · exact ⟨0, by omega, by omega, h2, h3, h6, rfl, rfl, fun i _ _ hi => by omega⟩
  · rintro m A1 H1 N1 ⟨j, hj, rfl, e2, e3, e5, rfl, rfl, hok⟩
    simp only at e2 e3 e5
    by_cases hjl : j = p.locks.length
    · subst hjl
      have hall := eqvL_iff.2 ⟨hll, fun i h h2 => hok i h h2 h⟩
      simp [a_bobbinref07_Sameb3, e2, e5]
      refine hk hall _ ?_ ?_ <;> simp [e2, e3]
    · have hlt : j < p.locks.length := by omega
      have hlt2 : j < q.locks.length := by omega
      obtain ⟨x, hx⟩ : ∃ x, p.locks[j] = x := ⟨_, rfl⟩
      obtain ⟨y, hy⟩ : ∃ y, q.locks[j] = y := ⟨_, rfl⟩
      have hix : aindex 1 (.sl p.lk 1 (lockCells p.locks)) (i64 j) = some (.ip [str x] 0) := aindex_sl (by omega) (by simp [lockCells, hlt, hx])
      have hiy : aindex 1 (.sl q.lk 1 (lockCells q.locks)) (i64 j) = some (.ip [str y] 0) := aindex_sl (by omega) (by simp [lockCells, hlt2, hy])
      by_cases hv : x = y
      · simp [a_bobbinref07_Sameb3, e2, e3, e5, hlt, hix, hiy, hv]
        refine ⟨p.locks.length - (j + 1), by omega, j + 1, by omega, rfl, by rw [wrap_i64 (by omega) (by omega)]; rfl, fun i h h2 hij => ?_⟩
        by_cases hij2 : i = j
        · subst hij2; rw [hx, hy]; exact decide_eq_true hv
        · exact hok i h h2 (by omega)
      · have hf := eqvL_bad (r := strE) hlt hlt2 (by rw [hx, hy]; exact decide_eq_false hv)
        simp [a_bobbinref07_Sameb3, e2, e3, e5, hlt, hix, hiy, hv]
        exact hr hf _ (by simp)
end

theorem p_refSame {p q : PrgV} (hp : p.Cmp) (hq : q.Cmp) : PCall Tryz.prog 35 [.agg p.cells, .agg q.cells] (bl (samePrg p q)) := by
  refine PCall.of fun N => acallF mixed c_bobbinref07_Same (by simp) fun hF => ?_
  obtain ⟨B, hB⟩ : ∃ B, samePrg p q = B := ⟨_, rfl⟩
  rw [hB]
  by_cases h1 : p.mems.length = q.mems.length
  · by_cases h2 : p.locks.length = q.locks.length
    · by_cases h3 : p.funs.length = q.funs.length
      · simp [a_bobbinref07_Same, h1, h2, h3]
        refine refSame_mems (p := p) (q := q) hp.ml h1 ?_ ?_ ?_ (fun hm A1 e2 e3 => ?_) (fun hm A1 e4 => ?_)
        · simp
        · simp
        · simp
        · simp
          refine refSame_locks (p := p) (q := q) hp.ll h2 ?_ ?_ ?_ (fun hs A2 g2 g3 => ?_) (fun hs A2 g4 => ?_)
          · simp [e2]
          · simp [e3]
          · simp
          · simp
            refine refSame_funs (p := p) (q := q) hp hq h3 ?_ ?_ ?_ hF (fun hf A3 H3 N3 => ?_) (fun hf A3 H3 N3 k4 => ?_)
            · simp [g2]
            · simp [g3]
            · simp
            · have : B = true := by rw [← hB]; simp only [samePrg, hm, hs, hf, Bool.and_true]
              simp [this]
              exact .free rfl
            · have : B = false := by rw [← hB]; simp only [samePrg, hf, Bool.and_false]
              simp [this, k4]
              exact .free rfl
          · have : B = false := by rw [← hB]; simp only [samePrg, hs, Bool.and_false, Bool.false_and]
            simp [this, g4]
            exact .free rfl
        · have : B = false := by rw [← hB]; simp only [samePrg, hm, Bool.false_and]
          simp [this, e4]
          exact .free rfl
      · have : B = false := by rw [← hB]; simp only [samePrg, eqvL_len h3, Bool.and_false]
        simp [a_bobbinref07_Same, h1, h2, show ¬ ((p.funs.length : Int) = q.funs.length) by omega, this]
        exact .free rfl
    · have : B = false := by rw [← hB]; simp only [samePrg, eqvL_len h2, Bool.and_false, Bool.false_and]
      simp [a_bobbinref07_Same, h1, show ¬ ((p.locks.length : Int) = q.locks.length) by omega, this]
      exact .free rfl
  · have : B = false := by rw [← hB]; simp only [samePrg, eqvL_len h1, Bool.false_and]
    simp [a_bobbinref07_Same, show ¬ ((p.mems.length : Int) = q.mems.length) by omega, this]
    exact .free rfl
end Go.Proofs.YtefejpckppabpaaGreatDoor
