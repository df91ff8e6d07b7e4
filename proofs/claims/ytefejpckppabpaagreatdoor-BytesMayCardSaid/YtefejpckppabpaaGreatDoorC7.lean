/- code: whether an instruction may be in a Fun, in all. -/
import Derived.Test.YtefejpckppabpaaGreatDoorC6
namespace Go.Proofs.YtefejpckppabpaaGreatDoor
set_option linter.unusedSimpArgs false
set_option linter.unusedVariables false
open Go Go.Fw

def zIns : Ins := ⟨0, 0, 0, 0, 0, .nil, 0, []⟩
theorem zIns_ok : zIns.Ok := ⟨by decide, by decide, by simp [zIns], .inr rfl⟩
theorem zIns_cells : zIns.cells = [u8 0, i64 0, i64 0, i64 0, i64 0, .sl .nil 0 []] := rfl

theorem bareIns_ok {w : Row} {x : Ins} (h : x.Ok) : (bareIns w x).Ok := by
  have hop : (bareIns w x).op = 0 := by unfold bareIns bC; split <;> rfl
  refine ⟨by omega, by omega, ?_, ?_⟩
  · unfold bareIns bC; split
    · simp
    · exact h.len
  · unfold bareIns bC; split
    · exact .inr rfl
    · exact h.hz

/-- The questions ahead of the registers. -/
def mayA (p : PrgV) (f : FunV) (x : Ins) : Bool := known x.op && (sameIns (bareIns (ofR x.op) x) zIns && numOk p f (ofR x.op) x)
def regsOk (l : List Int) (regs : Int) : Bool := l.all fun r => within r regs
def mayB (p : PrgV) (f : FunV) (x : Ins) : Bool := mayA p f x && (regsOk (readsL x) f.regs && (!(ofR x.op).r || within x.r f.regs))

section
variable {p : PrgV} {f : FunV} {x : Ins} {o : Nat} {A : Nat → AV} {H : AHeap} {N : Nat} {fs : List Fr} {Q : Post} {v : Bool}

theorem may_a (hx : x.Ok) (h3 : A 3 = .ip p.cells 0) (h4 : A 4 = .ip f.cells 0) (h5 : A 5 = .ip x.cells 0) (h6 : A 6 = .mp o 0) (h7 : A 7 = .mp (o + 1) 0) (h8 : A 8 = bl (known x.op))
    (ho : H o = some (.blk [bl v])) (ho1 : H (o + 1) = some (.blk (ofR x.op).cells))
    (hk : mayA p f x = true → ∀ A', (∀ t ∈ [3, 4, 5, 6], A' t = A t) → onward Tryz.prog fs Q .normal ⟨A', H, N⟩)
    (hr : mayA p f x = false → ∀ A', (∀ t ∈ [3, 4, 5, 6], A' t = A t) → onward Tryz.prog fs Q .ret ⟨A', H.set o (.blk [bl false]), N⟩) : run Tryz.prog a_code_mayIns_a fs Q ⟨A, H, N⟩ := by
  by_cases hkn : known x.op = true
  · simp [a_code_mayIns_a, h3, h4, h5, h6, h7, h8, hkn, ho, ho1]
    refine (p_bare (ofR x.op) x).acall ?_
    simp
    have hs := p_SameIns (bareIns (ofR x.op) x) zIns (bareIns_ok hx) zIns_ok
    rw [zIns_cells] at hs
    refine hs.acall ?_
    by_cases hsm : sameIns (bareIns (ofR x.op) x) zIns = true
    · simp [hsm, h3, h4, h5, h7, ho1]
      refine (p_number p f (ofR x.op) x).acall ?_
      by_cases hnum : numOk p f (ofR x.op) x = true
      · simp [hnum]
        exact hk (by simp [mayA, hkn, hsm, hnum]) _ (by simp)
      · simp [hnum, h6, ho]
        exact hr (by simp [mayA, hnum]) _ (by simp)
    · simp [hsm, h6, ho]
      exact hr (by simp [mayA, hsm]) _ (by simp)
  · simp [a_code_mayIns_a, h8, hkn, h6, ho]
    exact hr (by simp [mayA, hkn]) _ (by simp)

theorem regsOk_take {l : List Int} {j : Nat} {r : Int} (h : j < l.length) : regsOk (l.take (j + 1)) r = (regsOk (l.take j) r && within l[j] r) := by
  rw [take_next h]; simp only [regsOk, List.all_append, List.all_cons, List.all_nil, Bool.and_true]

theorem bsl_ints (l : List Int) : ∃ k z, bsl (.sl .exact 1 []) 1 (intCells l) = .sl k z (intCells l) ∧ (z = 1 ∨ l = []) := by
  cases l with
  | nil => exact ⟨_, _, rfl, .inl rfl⟩
  | cons a l => exact ⟨_, _, rfl, .inl rfl⟩

theorem seq_reads {x : Ins} (hl : x.args.length ≤ 999999999990) : SeqC Tryz.prog 132 [.ip [bsl (.sl .exact 1 []) 1 (intCells (readsL x))] 0] (intCells (readsL x)) := by
  have hm : maxLen = 9223372036854775807 := rfl
  have := readsL_len x
  exact seq_Values (bsl_ints _) (by omega)

theorem may_b (hx : x.Ok) (hl : x.args.length ≤ 999999999990) (h4 : A 4 = .ip f.cells 0) (h5 : A 5 = .ip x.cells 0) (h6 : A 6 = .mp o 0) (ho : H o = some (.blk [bl v])) (hF : Fresh H N)
    (hk : regsOk (readsL x) f.regs = true → ∀ A' N', (∀ t ∈ [3, 4, 5, 6], A' t = A t) → onward Tryz.prog fs Q .normal ⟨A', H, N'⟩)
    (hr : regsOk (readsL x) f.regs = false → ∀ A' N', (∀ t ∈ [3, 4, 5, 6], A' t = A t) → onward Tryz.prog fs Q .ret ⟨A', H.set o (.blk [bl false]), N'⟩) : run Tryz.prog a_code_mayIns_b fs Q ⟨A, H, N⟩ := by
  have hoN : o < N := hF.lt ho
  simp [a_code_mayIns_b, h5]
  refine (p_reads hx hl).acall ?_
  simp
  refine range_seq (seq_reads hl) (fun i G => G = H ∧ regsOk ((readsL x).take i) f.regs = true) (fun e G => e = .ret ∧ G = H.set o (.blk [bl false]) ∧ regsOk (readsL x) f.regs = false)
    (fun y hy => by rw [intCells_sz _ y hy]; rfl) hF ⟨rfl, rfl⟩ ?_ ?_ ?_
  · rintro o1 ob i y G N1 hy hN1 hFG hG ⟨rfl, hok⟩
    have hil : i < (readsL x).length := by have := (List.getElem?_eq_some_iff.1 hy).1; rwa [intCells_len] at this
    rw [intCells_at hil] at hy
    cases hy
    have hbad : within (readsL x)[i] f.regs = false → regsOk (readsL x) f.regs = false := fun h => by
      simp only [regsOk, List.all_eq_false]
      exact ⟨_, List.getElem_mem hil, by simp [h]⟩
    have hnx := regsOk_take (r := f.regs) hil
    by_cases h0 : (readsL x)[i] < 0
    · have hw : within (readsL x)[i] f.regs = false := by simp [within]; omega
      simp [h0, h4, h6, ho, show o ≠ N by omega]
      refine ⟨fun h => by omega, ?_, hbad hw⟩
      funext j
      by_cases hj : j = N
      · subst hj; simp [AHeap.del, AHeap.set, show ¬ j = o by omega, hG]
      · simp [AHeap.del, AHeap.set, hj]
    · by_cases h1 : f.regs ≤ (readsL x)[i]
      · have hw : within (readsL x)[i] f.regs = false := by simp [within]; omega
        simp [h0, h1, h4, h6, ho, show o ≠ N by omega]
        refine ⟨fun h => by omega, ?_, hbad hw⟩
        funext j
        by_cases hj : j = N
        · subst hj; simp [AHeap.del, AHeap.set, show ¬ j = o by omega, hG]
        · simp [AHeap.del, AHeap.set, hj]
      · have hw : within (readsL x)[i] f.regs = true := by simp [within]; omega
        simp [h0, h1, h4]
        refine ⟨?_, by rw [hnx, hok, hw]; rfl⟩
        funext j
        by_cases hj : j = N
        · subst hj; simp [AHeap.del, hG]
        · simp [AHeap.del, AHeap.set, hj]
  · rintro H2 N2 hN2 ⟨rfl, hok⟩
    rw [intCells_len, List.take_length] at hok
    simp
    exact hk hok _ _ (by simp)
  · rintro e H2 N2 he hN2 ⟨rfl, rfl, hbad⟩
    simp
    exact hr hbad _ _ (by simp)

theorem p_mayIns (hx : x.Ok) (hl : x.args.length ≤ 999999999990) : PCall Tryz.prog 79 [.agg p.cells, .agg f.cells, .agg x.cells] (bl (mayB p f x)) := by
  refine PCall.of fun N => acallF mixed c_code_mayIns (by simp) fun hF => ?_
  simp [a_code_mayIns]
  refine (p_of x hx).acall ?_
  simp
  refine may_a (p := p) (f := f) (x := x) (o := N) (v := false) hx (by simp) (by simp) (by simp) (by simp) (by simp) (by simp) (by simp) (by simp) ?_ ?_
  · intro hA A1 h1
    have e3 := h1 3 (by simp)
    have e4 := h1 4 (by simp)
    have e5 := h1 5 (by simp)
    have e6 := h1 6 (by simp)
    simp at e3 e4 e5 e6 ⊢
    refine may_b (f := f) (x := x) (o := N) (v := false) hx hl e4 e5 e6 (by simp) ((hF.set _).set _) ?_ ?_
    · intro hB A2 N2 h2
      have d4 := (h2 4 (by simp)).trans e4
      have d5 := (h2 5 (by simp)).trans e5
      have d6 := (h2 6 (by simp)).trans e6
      simp [d5]
      refine (p_Writes x hx).acall ?_
      simp
      by_cases hr : (ofR x.op).r = true
      · by_cases h0 : 0 ≤ x.r
        · simp [hr, h0, d4, d6, mayB, hA, hB, within]; exact .free rfl
        · simp [hr, h0, d6, mayB, hA, hB, within]; exact .free rfl
      · simp [hr, d6, mayB, hA, hB]; exact .free rfl
    · intro hB A2 N2 h2
      have d6 := (h2 6 (by simp)).trans e6
      simp [d6, mayB, hB]; exact .free rfl
  · intro hA A1 h1
    have e6 := h1 6 (by simp)
    simp at e6 ⊢
    simp [e6, mayB, hA]; exact .free rfl





end
end Go.Proofs.YtefejpckppabpaaGreatDoor
