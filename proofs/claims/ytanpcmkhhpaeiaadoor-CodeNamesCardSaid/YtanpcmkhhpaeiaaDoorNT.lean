/- code: more pieces of the law CodeSame. -/
import Derived.Test.YtanpcmkhhpaeiaaDoorNS
namespace Go.Proofs.YtanpcmkhhpaeiaaDoor
set_option linter.unusedSimpArgs false
set_option linter.unusedVariables false
open Go Go.Fw
section
variable {p q : PrgV} {x : Ins} {A : Nat → AV} {H : AHeap} {N : Nat} {fs : List Fr} {Q : Post} {n : Int} {k o o1 o2 : Nat}

theorem same_y1 (h5 : A 5 = .ip p.cells 0) (hk : ∀ A', (∀ t ∈ [3, 5, 9, 11, 12], A' t = A t) → A' 13 = .mp N 0 → onward Tryd.prog fs Q .normal ⟨A', H.set N (.blk p.cells), N + 1⟩) :
    run Tryd.prog a_same_y1 fs Q ⟨A, H, N⟩ := by
  simp [a_same_y1, h5]
  exact hk _ (by simp [h5]) (by simp)
theorem same_z1 (h5 : A 5 = .ip p.cells 0) (hk : ∀ A', (∀ t ∈ [5, 9, 11, 14, 15], A' t = A t) → A' 16 = .mp N 0 → onward Tryd.prog fs Q .normal ⟨A', H.set N (.blk p.cells), N + 1⟩) :
    run Tryd.prog a_same_z1 fs Q ⟨A, H, N⟩ := by
  simp [a_same_z1, h5]
  exact hk _ (by simp [h5]) (by simp)
theorem same_z2 (hl : p.funs.length ≤ 20) (h0 : p.funs.length ≠ 0) (h5 : A 5 = .ip p.cells 0) (h16 : A 16 = .mp o 0) (ho : H o = some (.blk p.cells)) (hoN : o < N)
    (hk : ∀ A', (∀ t ∈ [5, 9, 11, 14, 15, 16], A' t = A t) → onward Tryd.prog fs Q .normal ⟨A', (H.set N (.blk (funCells p.funs).flatten)).set o (.blk [.sl p.mmk 3 (memCells p.mems), .sl p.lk 1 (lockCells p.locks), .ms N 0 p.funs.length 5]), N + 1⟩) :
    run Tryd.prog a_same_z2 fs Q ⟨A, H, N⟩ := by
  have happ := app_exact (H := H) (N := N) (sz := 5) (bytes := 64) (y := .sl p.fk 5 (funCells p.funs)) (news := (funCells p.funs).flatten) (m := p.funs.length) (by simp [asrc, funCells_len']) h0 (by unfold lim; omega) (by omega)
  have hne : ¬ o = N := by omega
  simp [a_same_z2, h5, h16, happ, ho, hne]
  exact hk _ (by simp [h5, h16])

theorem same_y2 (hF : Fresh H N) (hl : p.funs.length ≤ 20) (hkl : k < p.funs.length) (h5 : A 5 = .ip p.cells 0) (h11 : A 11 = i64 (k : Nat)) (h13 : A 13 = .mp o 0) (ho : H o = some (.blk p.cells)) (hoN : o < N)
    (hk : ∀ A' H' N' v, N ≤ N' → Fresh H' N' → (∀ j, j < N → j ≠ o → H' j = H j) → H' o = some (.blk [.sl p.mmk 3 (memCells p.mems), .sl p.lk 1 (lockCells p.locks), v]) → Built H' N 5 (.sl .exact 5 []) (funCells (p.funs.take k ++ p.funs.drop (k + 1))) v →
      (∀ t ∈ [3, 5, 9, 11, 12, 13], A' t = A t) → onward Tryd.prog fs Q .normal ⟨A', H', N'⟩) :
    run Tryd.prog a_same_y2 fs Q ⟨A, H, N⟩ := by
  have hfl := funCells_len' p.funs
  have hs1 : aslice 5 (.sl p.fk 5 (funCells p.funs)) none (some (i64 (k : Nat))) none = some (.sl (askind p.fk false) 5 ((funCells p.funs).take k)) := by
    simp [aslice, bnd, hfl, show (k : Int) ≤ p.funs.length by omega]
  have hs2 : aslice 5 (.sl p.fk 5 (funCells p.funs)) (some (i64 ((k : Nat) + 1 : Int))) none none = some (.sl (askind p.fk false) 5 ((funCells p.funs).drop (k + 1))) := by
    have e : ((k : Int) + 1).toNat = k + 1 := by omega
    have e2 : ((funCells p.funs).drop (k + 1)).take (p.funs.length - (k + 1)) = (funCells p.funs).drop (k + 1) := List.take_of_length_le (by rw [List.length_drop, hfl]; omega)
    simp [aslice, bnd, hfl, show (k : Int) + 1 ≤ p.funs.length by omega, show (0 : Int) ≤ (k : Int) + 1 by omega, e, e2]
  obtain ⟨v1, H1, N1, ha1, hB1, hk1, hN1, hF1⟩ := Built.append (H := H) (N := N) (lo := N) (sz := 5) (z := .sl .exact 5 []) (es := []) (ns := (funCells p.funs).take k) (v := .sl .exact 5 []) (y := .sl (askind p.fk false) 5 ((funCells p.funs).take k)) (bytes := 64) Built.empty hF (Nat.le_refl _) (by simp [asrc]) (fun y hy => funCells_sz' _ y (List.mem_of_mem_take hy))
    (by unfold lim; simp [hfl]; omega) (by simp [hfl]; omega)
  obtain ⟨v2, H2, N2, ha2, hB2, hk2, hN2, hF2⟩ := hB1.append (ns := (funCells p.funs).drop (k + 1)) (y := .sl (askind p.fk false) 5 ((funCells p.funs).drop (k + 1))) (bytes := 64) hF1 hN1 (by simp [asrc]) (fun y hy => funCells_sz' _ y (List.mem_of_mem_drop hy))
    (by unfold lim; simp [hfl]; omega) (by simp [hfl]; omega)
  have ho2 : H2 o = some (.blk p.cells) := (hk2 o hoN).trans ((hk1 o hoN).trans ho)
  have hw : IntKind.i64.wrap ((k : Int) + 1) = (k : Int) + 1 := wrap_i64 (by omega) (by omega)
  have hcl := hB2.rd.cells
  rw [List.nil_append] at hB2
  simp [a_same_y2, h5, h11, h13, hs1, hs2, hw, ha1, ha2, ho2, hcl, -AV.cells]
  refine hk _ _ _ v2 (by omega) ?_ ?_ ?_ ?_ ?_
  · intro j hj
    simp only [AHeap.set]
    rw [if_neg (by omega)]
    exact hF2 j hj
  · intro j hj hjo
    simp only [AHeap.set]
    rw [if_neg hjo]
    exact (hk2 j hj).trans (hk1 j hj)
  · simp only [AHeap.set, if_true]
    rfl
  · rw [show funCells (p.funs.take k ++ p.funs.drop (k + 1)) = (funCells p.funs).take k ++ (funCells p.funs).drop (k + 1) by simp [funCells, List.map_take, List.map_drop]]
    exact hB2.keep fun j hj => by
      simp only [AHeap.set]
      rw [if_neg (by omega)]
  · simp [h5, h11, h13]
theorem same_l1 {f : FunV} (hf : p.funs[k]? = some f) (h5 : A 5 = .ip p.cells 0) (h11 : A 11 = i64 (k : Nat)) (hk : ∀ A', (∀ t ∈ [3, 5, 9, 11], A' t = A t) → A' 14 = .sl f.k 6 (codeCells f.code) → onward Tryd.prog fs Q .normal ⟨A', H, N⟩) :
    run Tryd.prog a_same_l1 fs Q ⟨A, H, N⟩ := by
  have hkl : k < p.funs.length := (List.getElem?_eq_some_iff.1 hf).1
  have hfe : p.funs[k] = f := (List.getElem?_eq_some_iff.1 hf).2
  have hq : aindex 5 (.sl p.fk 5 (funCells p.funs)) (i64 (k : Nat)) = some (.ip p.funs[k].cells 0) := elem_of hkl
  rw [hfe] at hq
  simp [a_same_l1, h5, h11, hq]
  exact hk _ (by simp [h5, h11]) (by simp)
theorem same_l2 {f : FunV} (h14 : A 14 = .sl f.k 6 (codeCells f.code)) (hk : f.code.length ≠ 0 → f.code.length ≤ 2000 → ∀ A', (∀ t ∈ [3, 5, 9, 11, 14], A' t = A t) → onward Tryd.prog fs Q .normal ⟨A', H, N⟩)
    (hr : ∀ A', A' 10 = bl true → onward Tryd.prog fs Q .ret ⟨A', H, N⟩) : run Tryd.prog a_same_l2 fs Q ⟨A, H, N⟩ := by
  by_cases h : f.code.length = 0
  · simp [a_same_l2, h14, h, codeCells_len]
    exact hr _ (by simp)
  · have h' : f.code ≠ [] := fun e => h (by rw [e]; rfl)
    by_cases h2 : 2000 < f.code.length
    · simp [a_same_l2, h14, h', codeCells_len, show (2000 : Int) < f.code.length by omega]
      exact hr _ (by simp)
    · simp [a_same_l2, h14, h', codeCells_len, show ¬ (2000 : Int) < f.code.length by omega]
      exact hk h (by omega) _ (by simp [h14])
theorem same_l3 {f : FunV} (hl : f.code.length ≤ 2000) (h0 : f.code.length ≠ 0) (h3 : A 3 = i64 n) (h14 : A 14 = .sl f.k 6 (codeCells f.code)) (hk : ∀ A' k, k < f.code.length → A' 15 = i64 (k : Nat) → (∀ t ∈ [5, 9, 11, 14], A' t = A t) → onward Tryd.prog fs Q .normal ⟨A', H, N⟩) :
    run Tryd.prog a_same_l3 fs Q ⟨A, H, N⟩ := by
  obtain ⟨w, hw⟩ := u64_nn n
  have hm := Nat.mod_lt w (show 0 < f.code.length by omega)
  have h' : f.code ≠ [] := fun e => h0 (by rw [e]; rfl)
  simp [a_same_l3, h3, h14, u64_small (show f.code.length ≤ 1000000 by omega), hw, h', codeCells_len]
  refine hk _ (w % f.code.length) hm ?_ (by simp [h14])
  have e : (w : Int).tmod (f.code.length : Int) = ((w % f.code.length : Nat) : Int) := rfl
  simp
  rw [e, wrap_i64 (by omega) (by omega)]
  push_cast
  rfl
theorem same_z3 {mk lk : AV} {f : FunV} {cs : List AV} {len : Nat} (hkl : k < len) (hcs : cs.length = len * 5) (hc0 : f.code.length ≠ 0) (hc1 : f.code.length ≤ 2000) (hN : H N = none) (hoN : o1 < N) (h11 : A 11 = i64 (k : Nat)) (h14 : A 14 = .sl f.k 6 (codeCells f.code)) (h16 : A 16 = .mp o 0)
    (ho : H o = some (.blk [mk, lk, .ms o1 0 len 5])) (ho1 : H o1 = some (.blk cs))
    (hk : ∀ A', (∀ t ∈ [5, 9, 11, 14, 15, 16], A' t = A t) → onward Tryd.prog fs Q .normal ⟨A', (H.set N (.blk (codeCells f.code).flatten)).set o1 (.blk (cs.set (k * 5 + 4) (.ms N 0 f.code.length 6))), N + 1⟩) :
    run Tryd.prog a_same_z3 fs Q ⟨A, H, N⟩ := by
  have happ := app_exact (H := H) (N := N) (sz := 6) (bytes := 64) (y := .sl f.k 6 (codeCells f.code)) (news := (codeCells f.code).flatten) (m := f.code.length) (by simp [asrc, codeCells_len]) hc0 (by unfold lim; omega) (by omega)
  have hq : aindex 5 (.ms o1 0 len 5) (i64 (k : Nat)) = some (.mp o1 (k * 5)) := by simp [aindex, hkl]
  have hne : ¬ o1 = N := by omega
  have hb : k * 5 + 4 + 1 ≤ len * 5 := by omega
  have hkp : keepOk H N (.sl .exact 6 []) = true := by simp [keepOk, hN]
  simp [a_same_z3, h11, h14, h16, ho, ho1, happ, hq, hcs, hb, hN, hne, hkp]
  exact hk _ (by simp [h11, h14, h16])
theorem same_z4 {mk lk : AV} {f : FunV} {cs : List AV} {len j : Nat} (hkl : k < len) (hj : j < f.code.length) (hc : cs[k * 5 + 4]? = some (.ms o2 0 f.code.length 6)) (hcs : cs.length = len * 5) (h9 : A 9 = .ip x.cells 0) (h11 : A 11 = i64 (k : Nat)) (h15 : A 15 = i64 (j : Nat)) (h16 : A 16 = .mp o 0)
    (ho : H o = some (.blk [mk, lk, .ms o1 0 len 5])) (ho1 : H o1 = some (.blk cs)) (ho2 : H o2 = some (.blk (codeCells f.code).flatten))
    (hk : ∀ A', (∀ t ∈ [5, 9, 14, 15, 16], A' t = A t) → onward Tryd.prog fs Q .normal ⟨A', H.set o2 (.blk (codeCells (f.code.set j x)).flatten), N⟩) :
    run Tryd.prog a_same_z4 fs Q ⟨A, H, N⟩ := by
  have hq : aindex 5 (.ms o1 0 len 5) (i64 (k : Nat)) = some (.mp o1 (k * 5)) := by simp [aindex, hkl]
  have hq2 : aindex 6 (.ms o2 0 f.code.length 6) (i64 (j : Nat)) = some (.mp o2 (j * 6)) := by simp [aindex, hj]
  have hb : k * 5 + 4 + 1 ≤ len * 5 := by omega
  have hlen : (codeCells f.code).flatten.length = f.code.length * 6 := by rw [flatten_len (codeCells_sz _), codeCells_len]
  have hsp : splice (j * 6) x.cells (codeCells f.code).flatten = (codeCells (f.code.set j x)).flatten := by
    show (codeCells f.code).flatten.take (j * 6) ++ x.cells ++ (codeCells f.code).flatten.drop (j * 6 + x.cells.length) = _
    rw [List.append_assoc, x.len, flat_splice (codeCells_sz _) (by rw [codeCells_len]; exact hj)]
    simp only [codeCells, List.map_set]
  simp [a_same_z4, h9, h11, h15, h16, ho, ho1, ho2, hq, hq2, hc, hlen, hsp, show j * 6 + 6 ≤ f.code.length * 6 by omega, -List.length_flatten]
  exact hk _ (by simp [h9, h15, h16])
end
end Go.Proofs.YtanpcmkhhpaeiaaDoor
