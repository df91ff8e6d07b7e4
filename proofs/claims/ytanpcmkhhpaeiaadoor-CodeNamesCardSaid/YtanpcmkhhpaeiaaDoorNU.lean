/- code: the law CodeSame. -/
import Derived.Test.YtanpcmkhhpaeiaaDoorNT
namespace Go.Proofs.YtanpcmkhhpaeiaaDoor
set_option linter.unusedSimpArgs false
set_option linter.unusedVariables false
open Go Go.Fw

section
variable {p q : PrgV} {x : Ins} {A : Nat → AV} {H : AHeap} {N : Nat} {fs : List Fr} {Q : Post} {n : Int} {k o o1 o2 oy : Nat}

theorem view_prog {l : List FunV} {kd : SK} {v : AV} (hv : View H v (.sl kd 5 (funCells l))) :
    View H (.agg [.sl p.mmk 3 (memCells p.mems), .sl p.lk 1 (lockCells p.locks), v]) (.agg (PrgV.cells { p with fk := kd, funs := l })) := by
  refine .agg rfl fun i c d hc hd => ?_
  match i, hc, hd with
  | 0, hc, hd => cases hc; cases hd; exact .free (by simp [AV.free, memCells_free])
  | 1, hc, hd => cases hc; cases hd; exact .free (by simp [AV.free, lockCells_free])
  | 2, hc, hd => cases hc; cases hd; exact hv
  | i + 3, hc, hd => cases hc
theorem freeL_flat : ∀ {es : List (List AV)}, freeLL es = true → freeL es.flatten = true
  | [], _ => rfl
  | a :: r, h => by
    simp only [freeLL, Bool.and_eq_true] at h
    have app : ∀ (a b : List AV), freeL a = true → freeL b = true → freeL (a ++ b) = true := fun a b ha hb => by
      induction a with
      | nil => exact hb
      | cons c a ih =>
        simp only [freeL, Bool.and_eq_true] at ha
        simp only [List.cons_append, freeL, Bool.and_eq_true]
        exact ⟨ha.1, ih ha.2⟩
    rw [List.flatten_cons]
    exact app _ _ h.1 (freeL_flat h.2)
theorem view_flat {sz : Nat} {es : List (List AV)} (hs : ∀ x ∈ es, x.length = sz) (hf : freeLL es = true) {n : Nat} (hn : es.length = n) (ho : H o1 = some (.blk es.flatten)) : View H (.ms o1 0 n sz) (.sl .any sz es) := by
  have h := View.ms (H := H) (id := o1) (off := 0) (len := n) (sz := sz) (cs := es.flatten) (ds := es.flatten) ho (by rw [flatten_len hs, hn]; omega) rfl (fun i c d hc hd => by
    rw [hc] at hd
    cases hd
    exact .free (freeL_get (freeL_flat hf) hc))
  rw [List.drop_zero, ← hn, Go.Fw.chunks_flatten hs] at h
  rw [← hn]
  exact h
theorem two_args {a b c : AV} (h : View H b c) : ∀ (i : Nat) (x y : AV), [a, b][i]? = some x → [a, c][i]? = some y → x = y ∨ View H x y := fun i x y hx hy => by
  match i, hx, hy with
  | 0, hx, hy => cases hx; cases hy; exact .inl rfl
  | 1, hx, hy => cases hx; cases hy; exact .inr h
  | i + 2, hx, hy => cases hx

theorem same_c {lo : Nat} {g : FunV} {v : AV} (hp : p.Cmp) (hkl : k < p.funs.length) (hg : PrgV.Cmp { p with fk := .any, funs := p.funs.set k g }) (hne : sameFun p.funs[k] g = false) (h5 : A 5 = .ip p.cells 0) (h12 : A 12 = .mp o 0) (h13 : A 13 = .mp oy 0)
    (ho : H o = some (.blk [.sl p.mmk 3 (memCells p.mems), .sl p.lk 1 (lockCells p.locks), .ms o1 0 p.funs.length 5])) (ho1 : H o1 = some (.blk (funCells (p.funs.set k g)).flatten))
    (hoy : H oy = some (.blk [.sl p.mmk 3 (memCells p.mems), .sl p.lk 1 (lockCells p.locks), v])) (hB : Built H lo 5 (.sl .exact 5 []) (funCells (p.funs.take k ++ p.funs.drop (k + 1))) v)
    (hk : ∀ A', (∀ t ∈ [3, 5, 9, 11], A' t = A t) → onward Tryd.prog fs Q .normal ⟨A', H, N⟩) : run Tryd.prog a_same_c fs Q ⟨A, H, N⟩ := by
  simp [a_same_c, h5, h12, ho]
  refine (p_Same hp hg).seen rfl (two_args (view_prog (view_flat (funCells_sz' _) (funCells_free _) (by rw [funCells_len', List.length_set]) ho1))) ?_
  rw [same_set hkl, hne]
  obtain ⟨ky, hky⟩ : ∃ ky, bsl (.sl .exact 5 []) 5 (funCells (p.funs.take k ++ p.funs.drop (k + 1))) = .sl ky 5 (funCells (p.funs.take k ++ p.funs.drop (k + 1))) := by
    cases funCells (p.funs.take k ++ p.funs.drop (k + 1)) with
    | nil => exact ⟨.exact, rfl⟩
    | cons a l => exact ⟨.any, rfl⟩
  have hv := hB.view (funCells_free _)
  rw [hky] at hv
  have hcy : PrgV.Cmp { p with fk := ky, funs := p.funs.take k ++ p.funs.drop (k + 1) } := by
    have hin : ∀ f ∈ p.funs.take k ++ p.funs.drop (k + 1), f ∈ p.funs := fun f hf => (List.mem_append.1 hf).elim List.mem_of_mem_take List.mem_of_mem_drop
    exact ⟨hp.ml, hp.ll, by have := hp.fl; simp; omega, fun f hf => hp.cl f (hin f hf), fun f hf => hp.ins f (hin f hf)⟩
  simp [h5, h13, hoy]
  refine (p_Same hp hcy).seen rfl (two_args (view_prog hv)) ?_
  rw [same_less hkl]
  simp
  exact hk _ (by simp [h5])

theorem same_r {f : FunV} {j : Nat} {cs : List AV} (hp : p.Cmp) (hx : x.Ok) (hf : p.funs[k]? = some f) (hj : j < f.code.length) (hg : PrgV.Cmp { p with fk := .any, funs := p.funs.set k { f with k := .any, code := f.code.set j x } })
    (h5 : A 5 = .ip p.cells 0) (h9 : A 9 = .ip x.cells 0) (h14 : A 14 = .sl f.k 6 (codeCells f.code)) (h15 : A 15 = i64 (j : Nat)) (h16 : A 16 = .mp o 0)
    (ho : H o = some (.blk [.sl p.mmk 3 (memCells p.mems), .sl p.lk 1 (lockCells p.locks), .ms o1 0 p.funs.length 5])) (ho1 : H o1 = some (.blk ((funCells p.funs).flatten.set (k * 5 + 4) (.ms o2 0 f.code.length 6))))
    (ho2 : H o2 = some (.blk (codeCells (f.code.set j x)).flatten))
    (hk : ∀ A', A' 10 = bl true → onward Tryd.prog fs Q .normal ⟨A', H, N⟩) : run Tryd.prog a_same_r fs Q ⟨A, H, N⟩ := by
  have hkl : k < p.funs.length := (List.getElem?_eq_some_iff.1 hf).1
  have hfe : p.funs[k] = f := (List.getElem?_eq_some_iff.1 hf).2
  have hvc : View H (.ms o2 0 f.code.length 6) (.sl .any 6 (codeCells (f.code.set j x))) := view_flat (codeCells_sz _) (codeCells_free _) (by rw [codeCells_len, List.length_set]) ho2
  have hsz := funCells_sz' p.funs
  have hlen : (funCells p.funs).flatten.length = p.funs.length * 5 := by rw [flatten_len hsz, funCells_len']
  have hset := flat_set (c := 4) (v := .sl .any 6 (codeCells (f.code.set j x))) (show 4 < 5 by omega) hsz (k := k) (by rw [funCells_len']; exact hkl)
  have hfx : (funCells p.funs)[k]'(by rw [funCells_len']; exact hkl) = f.cells := by simp [funCells, hfe]
  have hcs : (funCells p.funs).set k (f.cells.set 4 (.sl .any 6 (codeCells (f.code.set j x)))) = funCells (p.funs.set k { f with k := .any, code := f.code.set j x }) := by
    simp only [funCells, List.map_set]
    rfl
  rw [hfx, hcs] at hset
  have hvf : View H (.ms o1 0 p.funs.length 5) (.sl .any 5 (funCells (p.funs.set k { f with k := .any, code := f.code.set j x }))) := by
    have h := View.ms (H := H) (id := o1) (off := 0) (len := p.funs.length) (sz := 5) (ds := (funCells p.funs).flatten.set (k * 5 + 4) (.sl .any 6 (codeCells (f.code.set j x)))) ho1 (by rw [List.length_set, hlen]; omega) (by simp) (fun i c d hc hd => by
      rw [List.getElem?_set] at hc hd
      split at hc
      · rename_i e
        rw [if_pos e] at hd
        split at hc
        · rename_i e2
          rw [if_pos e2] at hd
          cases hc; cases hd
          exact hvc
        · cases hc
      · rename_i e
        rw [if_neg e, hc] at hd
        cases hd
        exact .free (freeL_get (freeL_flat (funCells_free _)) hc))
    rw [List.drop_zero, hset] at h
    have hl2 : (funCells (p.funs.set k { f with k := .any, code := f.code.set j x })).length = p.funs.length := by rw [funCells_len', List.length_set]
    rw [← hl2, Go.Fw.chunks_flatten (funCells_sz' _), hl2] at h
    exact h
  have hq : aindex 6 (.sl f.k 6 (codeCells f.code)) (i64 (j : Nat)) = some (.ip f.code[j].cells 0) := elem_of hj
  simp [a_same_r, h5, h9, h14, h15, h16, ho, hq]
  refine (p_Same hp hg).seen rfl (two_args (view_prog hvf)) ?_
  rw [same_set hkl, hfe, same_code hj]
  simp
  refine ⟨fun _ _ h => h, ?_⟩
  refine (p_SameIns f.code[j] x (hp.ins f (List.mem_of_getElem? hf) _ (List.getElem_mem hj)) hx).acall ?_
  simp
  exact hk _ (by simp)
end
end Go.Proofs.YtanpcmkhhpaeiaaDoor
