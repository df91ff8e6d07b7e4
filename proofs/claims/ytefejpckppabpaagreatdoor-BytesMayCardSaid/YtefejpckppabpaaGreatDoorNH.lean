/- code, the reference: which programs may be. -/
import Derived.Test.YtefejpckppabpaaGreatDoorNG
namespace Go.Proofs.YtefejpckppabpaaGreatDoor
set_option linter.unusedSimpArgs false
set_option linter.unusedVariables false
open Go Go.Fw

theorem funB_of {p : PrgV} {f : FunV} (h : headP f) : funB p f = (lastB f && f.code.all (mayB p f)) := by
  have : (0 ≤ f.params ∧ f.params ≤ 8 ∧ ¬ (f.thread = true ∧ 0 < f.params) ∧ f.params ≤ f.regs ∧ f.regs ≤ 4096 ∧ 1 ≤ f.code.length ∧ f.code.length ≤ 16384) := h
  simp only [funB, this, not_false_eq_true, and_self, decide_true, Bool.true_and]
theorem funB_not {p : PrgV} {f : FunV} (h : ¬ headP f) : funB p f = false := by
  have : ¬ (0 ≤ f.params ∧ f.params ≤ 8 ∧ ¬ (f.thread = true ∧ 0 < f.params) ∧ f.params ≤ f.regs ∧ f.regs ≤ 4096 ∧ 1 ≤ f.code.length ∧ f.code.length ≤ 16384) := h
  simp only [funB, this, decide_false, Bool.false_and]

theorem prgB_mem {p : PrgV} {j : Nat} (hj : j < p.mems.length) (h : memB p.mems[j] = false) : prgB p = false := by
  have : p.mems.all memB = false := List.all_eq_false.2 ⟨_, List.getElem_mem hj, by rw [h]; simp⟩
  simp [prgB, this]
theorem prgB_fun {p : PrgV} {j : Nat} (hj : j < p.funs.length) (h : funB p p.funs[j] = false) : prgB p = false := by
  have : p.funs.all (funB p) = false := List.all_eq_false.2 ⟨_, List.getElem_mem hj, by rw [h]; simp⟩
  simp [prgB, this]
theorem prgB_named {p : PrgV} (h : namedB p.names = false) : prgB p = false := by simp [prgB, h]

section
variable {p : PrgV} {f : FunV} {A : Nat → AV} {H : AHeap} {N o : Nat} {fs : List Fr} {Q : Post} {v : AV} {l : List ByteArray}

/-- The instructions of a Fun. -/
theorem refMay_ins (hcl : f.code.length ≤ 9223372036854775807) (hi : ∀ x ∈ f.code, x.Ok ∧ x.args.length ≤ 999999999990) (h1 : A 1 = .ip p.cells 0) (h6 : A 6 = .mp o 0) (hH : H o = some (.blk f.cells)) (h8 : A 8 = i64 0)
    (hk : f.code.all (mayB p f) = true → ∀ A', (∀ t, t ≤ 7 → A' t = A t) → onward Tryz.prog fs Q (.exit 4) ⟨A', H, N⟩)
    (hr : f.code.all (mayB p f) = false → ∀ A', A' 2 = bl false → onward Tryz.prog fs Q .ret ⟨A', H, N⟩) : run Tryz.prog (.loop a_bobbinref07_Mayb3) fs Q ⟨A, H, N⟩ := by
  refine run_loop (fun m s => ∃ j, j ≤ f.code.length ∧ m = f.code.length - j ∧ (∀ t, t ≤ 7 → s.A t = A t) ∧ s.A 8 = i64 j ∧ s.H = H ∧ s.N = N ∧ ∀ i (h : i < f.code.length), i < j → mayB p f f.code[i] = true) f.code.length ?_ ?_
  · exact ⟨0, by omega, by omega, fun _ _ => rfl, h8, rfl, rfl, fun i h hi => by omega⟩
  · rintro m A1 H1 N1 ⟨j, hj, rfl, hA, e8, rfl, rfl, hgood⟩
    simp only at hA e8 hH
    have e1 := hA 1 (by omega)
    have e6 := hA 6 (by omega)
    rw [h1] at e1
    rw [h6] at e6
    by_cases hjl : j = f.code.length
    · subst hjl
      have hall : f.code.all (mayB p f) = true := List.all_eq_true.2 fun x hx => by
        obtain ⟨i, hi, rfl⟩ := List.getElem_of_mem hx
        exact hgood i hi hi
      simp [a_bobbinref07_Mayb3, e1, e6, e8, hH]
      refine hk hall _ fun t ht => ?_
      refine Eq.trans ?_ (hA t ht)
      (try simp only [upA]); repeat rw [if_neg (by omega)]
    · have hlt : j < f.code.length := by omega
      obtain ⟨x, hx⟩ : ∃ x, f.code[j] = x := ⟨_, rfl⟩
      obtain ⟨k1, k2⟩ := hi x (by rw [← hx]; exact List.getElem_mem hlt)
      have hix : aindex 6 (.sl f.k 6 (codeCells f.code)) (i64 j) = some (.ip x.cells 0) := aindex_sl (by omega) (by simp [codeCells, hlt, hx])
      simp [a_bobbinref07_Mayb3, e1, e6, e8, hH, hlt, hix]
      refine (p_refmayIns (p := p) (f := f) k1 k2).acall ?_
      by_cases hm : mayB p f x = true
      · simp [hm, e8]
        refine ⟨f.code.length - (j + 1), by omega, j + 1, by omega, rfl, fun t ht => ?_, by rw [wrap_i64 (by omega) (by omega)]; rfl, fun i h hij => ?_⟩
        · refine Eq.trans ?_ (hA t ht)
          (try simp only [upA]); repeat rw [if_neg (by omega)]
        · by_cases hij2 : i = j
          · subst hij2; rw [hx]; exact hm
          · exact hgood i h (by omega)
      · have hall : f.code.all (mayB p f) = false := List.all_eq_false.2 ⟨x, by rw [← hx]; exact List.getElem_mem hlt, hm⟩
        simp [hm]
        exact hr hall _ (by simp)

/-- The last instruction, and all. -/
theorem refMay_t (hh : headP f) (hcl : f.code.length ≤ 9223372036854775807) (hi : ∀ x ∈ f.code, x.Ok ∧ x.args.length ≤ 999999999990) (h1 : A 1 = .ip p.cells 0) (h6 : A 6 = .mp o 0) (hH : H o = some (.blk f.cells))
    (hk : funB p f = true → ∀ A', (∀ t, t ≤ 6 → A' t = A t) → onward Tryz.prog fs Q .normal ⟨A', H, N⟩)
    (hr : funB p f = false → ∀ A', A' 2 = bl false → onward Tryz.prog fs Q .ret ⟨A', H, N⟩) : run Tryz.prog a_refMay_t fs Q ⟨A, H, N⟩ := by
  have hpos : 1 ≤ f.code.length := hh.2.2.2.2.2.1
  have hle : f.code.length ≤ 16384 := hh.2.2.2.2.2.2
  have hlt2 : f.code.length - 1 < f.code.length := by omega
  obtain ⟨y, hy⟩ : ∃ y, f.code[f.code.length - 1] = y := ⟨_, rfl⟩
  have hlast : lastB f = decide (y.op = 11 ∨ y.op = 13) := by
    have : f.code.getLast? = some y := by rw [List.getLast?_eq_getElem?, List.getElem?_eq_getElem hlt2, hy]
    simp only [lastB, this]
  have hix2 : aindex 6 (.sl f.k 6 (codeCells f.code)) (i64 ((f.code.length : Int) - 1)) = some (.ip y.cells 0) := by
    refine aindex_sl (by omega) ?_
    have : ((f.code.length : Int) - 1).toNat = f.code.length - 1 := by omega
    rw [this]
    exact codeCells_at (by rw [List.getElem?_eq_getElem hlt2, hy])
  have hw : IntKind.i64.wrap ((f.code.length : Int) - 1) = (f.code.length : Int) - 1 := wrap_i64 (by omega) (by omega)
  have hfun := funB_of (p := p) hh
  by_cases o1 : y.op = 11 ∨ y.op = 13
  · have hl : lastB f = true := by rw [hlast]; exact decide_eq_true o1
    rw [hl, Bool.true_and] at hfun
    have fin : ∀ A2, (∀ t, t ≤ 6 → A2 t = A t) → A2 8 = i64 0 → run Tryz.prog (.loop a_bobbinref07_Mayb3) (Fr.blk 4 :: fs) Q ⟨A2, H, N⟩ := fun A2 hA2 h8 => by
      have g1 := hA2 1 (by omega)
      have g6 := hA2 6 (by omega)
      refine refMay_ins (p := p) (f := f) (o := o) hcl hi (by rw [g1, h1]) (by rw [g6, h6]) hH h8 (fun hall A3 hA3 => ?_) (fun hall A3 h2 => ?_)
      · simp
        exact hk (by rw [hfun, hall]) _ fun t ht => by rw [hA3 t (by omega), hA2 t ht]
      · simp
        exact hr (by rw [hfun, hall]) _ h2
    rcases o1 with o1 | o1
    · simp [a_refMay_t, h6, hH, hw, hix2, Ins.c0v, o1]
      refine fin _ (fun t ht => ?_) (by simp)
      (try simp only [upA]); repeat rw [if_neg (by omega)]
    · simp [a_refMay_t, h6, hH, hw, hix2, Ins.c0v, o1]
      refine fin _ (fun t ht => ?_) (by simp)
      (try simp only [upA]); repeat rw [if_neg (by omega)]
  · have hl : lastB f = false := by rw [hlast]; exact decide_eq_false o1
    rw [hl, Bool.false_and] at hfun
    simp [a_refMay_t, h6, hH, hw, hix2, Ins.c0v, show ¬ y.op = 11 from fun h => o1 (.inl h), show ¬ y.op = 13 from fun h => o1 (.inr h)]
    exact hr hfun _ (by simp)

/-- All Funs. -/
theorem refMay_funs (hp : p.Fit) (hs : l.length + p.funs.length ≤ 1000000000) (h1 : A 1 = .ip p.cells 0) (h3 : A 3 = v) (h5 : A 5 = i64 0) (hG : Gath l H N v)
    (hk : p.funs.all (funB p) = true → ∀ A' H' N' v', A' 1 = .ip p.cells 0 → A' 3 = v' → Gath (l ++ p.funs.map (·.name)) H' N' v' → onward Tryz.prog fs Q (.exit 2) ⟨A', H', N'⟩)
    (hr : prgB p = false → ∀ A' H' N', A' 2 = bl false → onward Tryz.prog fs Q .ret ⟨A', H', N'⟩) : run Tryz.prog (.loop a_bobbinref07_Mayb4) fs Q ⟨A, H, N⟩ := by
  refine run_loop (fun m s => ∃ j v, j ≤ p.funs.length ∧ m = p.funs.length - j ∧ s.A 1 = .ip p.cells 0 ∧ s.A 3 = v ∧ s.A 5 = i64 j ∧ Gath (l ++ fNames p j) s.H s.N v ∧ ∀ i (h : i < p.funs.length), i < j → funB p p.funs[i] = true) p.funs.length ?_ ?_
  · exact ⟨0, v, by omega, by omega, h1, h3, h5, by simpa [fNames] using hG, fun i h hi => by omega⟩
  · rintro m A1 H1 N1 ⟨j, v, hj, rfl, e1, e3, e5, hG, hgood⟩
    simp only at e1 e3 e5 hG
    by_cases hjl : j = p.funs.length
    · subst hjl
      have hall : p.funs.all (funB p) = true := List.all_eq_true.2 fun x hx => by
        obtain ⟨i, hi, rfl⟩ := List.getElem_of_mem hx
        exact hgood i hi hi
      rw [fNames_all] at hG
      simp [a_bobbinref07_Mayb4, e1, e5]
      refine hk hall _ _ _ v ?_ ?_ hG <;> simp [e1, e3]
    · have hlt : j < p.funs.length := by omega
      obtain ⟨x, hx⟩ : ∃ x, p.funs[j] = x := ⟨_, rfl⟩
      have hxm : x ∈ p.funs := by rw [← hx]; exact List.getElem_mem hlt
      have hix : aindex 5 (.sl p.fk 5 (funCells p.funs)) (i64 j) = some (.ip x.cells 0) := aindex_sl (by omega) (by simp [funCells, hlt, hx])
      have hsp : splice 0 x.cells [AV.lit (Value.string ⟨#[]⟩), AV.lit (Value.bool false), AV.lit (Value.int .i64 0), AV.lit (Value.int .i64 0), AV.sl .nil 0 []] = x.cells := splice_full (by simp)
      obtain ⟨v', H', N', happ, hG', hbox⟩ := hG.push (.blk x.cells) x.name (by rw [List.length_append, fNames_len (by omega)]; omega)
      have hnx := fNames_next hlt
      rw [hx] at hnx
      rw [List.append_assoc, ← hnx] at hG'
      have bad : funB p x = false → prgB p = false := fun h => prgB_fun hlt (by rw [hx]; exact h)
      unfold a_bobbinref07_Mayb4
      obtain ⟨_, er⟩ : ∃ c, a_refMay_h = c := ⟨_, rfl⟩
      rw [er]
      obtain ⟨_, et⟩ : ∃ c, a_refMay_t = c := ⟨_, rfl⟩
      rw [et]
      simp [e1, e3, e5, hlt, hix, hsp, happ]
      rw [← er]
      refine refMay_h (f := x) (o := N1) (by simp) hbox (fun hh A2 hA2 => ?_) (fun hh A2 h2 => ?_)
      · have g1 := hA2 1 (by omega)
        have g3 := hA2 3 (by omega)
        have g5 := hA2 5 (by omega)
        have g6 := hA2 6 (by omega)
        simp [e1, e3, e5] at g1 g3 g5 g6
        simp
        rw [← et]
        refine refMay_t (p := p) (f := x) (o := N1) hh (hp.cl x hxm) (hp.ins x hxm) g1 g6 hbox (fun hf A3 hA3 => ?_) (fun hf A3 h2 => ?_)
        · have f1 := hA3 1 (by omega)
          have f3 := hA3 3 (by omega)
          have f5 := hA3 5 (by omega)
          rw [g1] at f1; rw [g3] at f3; rw [g5] at f5
          simp [f1, f3, f5]
          refine ⟨p.funs.length - (j + 1), by omega, j + 1, by omega, rfl, by rw [wrap_i64 (by omega) (by have := hp.tot; omega)]; rfl, hG', fun i h hij => ?_⟩
          by_cases hij2 : i = j
          · subst hij2; rw [hx]; exact hf
          · exact hgood i h (by omega)
        · simp
          exact hr (bad hf) _ _ _ h2
      · simp
        exact hr (bad (funB_not hh)) _ _ _ h2
end
end Go.Proofs.YtefejpckppabpaaGreatDoor
