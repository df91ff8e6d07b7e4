/- code: the law CodeParts: the questions about the other program. -/
import Derived.Test.YtanpcmkhhpaeiaaDoorNZ
namespace Go.Proofs.YtanpcmkhhpaeiaaDoor
set_option linter.unusedSimpArgs false
set_option linter.unusedVariables false
open Go Go.Fw

theorem nmL_mem {l : List FunV} {j : Nat} {s : ByteArray} {g : FunV} (h : g ∈ nmL l j s) : ∃ f ∈ l, g = f ∨ g = { f with name := s } := by
  obtain ⟨i, hi⟩ := List.mem_iff_getElem?.1 h
  unfold nmL at hi
  rw [List.getElem?_modify] at hi
  cases hl : l[i]? with
  | none => rw [hl] at hi; simp at hi
  | some f =>
    rw [hl] at hi
    by_cases e : j = i
    · simp [e] at hi
      exact ⟨f, List.mem_of_getElem? hl, .inr hi.symm⟩
    · simp [e] at hi
      exact ⟨f, List.mem_of_getElem? hl, .inl hi.symm⟩
theorem turnL_mem {l : List FunV} {s0 s1 : ByteArray} {g : FunV} (h : g ∈ turnL l s0 s1) : ∃ f ∈ l, g.code = f.code ∧ (g.name = f.name ∨ g.name = s0 ∨ g.name = s1) := by
  obtain ⟨f, hf, e⟩ := nmL_mem h
  obtain ⟨f2, hf2, e2⟩ := nmL_mem hf
  refine ⟨f2, hf2, ?_, ?_⟩
  · rcases e with rfl | rfl <;> rcases e2 with rfl | rfl <;> rfl
  · rcases e with rfl | rfl
    · rcases e2 with rfl | rfl
      · exact .inl rfl
      · exact .inr (.inr rfl)
    · exact .inr (.inl rfl)

theorem PrgV.Fit.other {p : PrgV} (hp : p.Fit) {kd : SK} {l : List FunV} (hl : l.length = p.funs.length) (hn : ∀ g ∈ l, g.name.size ≤ 9223372036854775807) (hc : ∀ g ∈ l, g.code.length ≤ 9223372036854775807 ∧ ∀ x ∈ g.code, x.Ok ∧ x.args.length ≤ 999999999990) :
    PrgV.Fit { p with fk := kd, funs := l } where
  tot := by rw [show ({ p with fk := kd, funs := l } : PrgV).funs.length = p.funs.length from hl]; exact hp.tot
  names := fun s hs => by
    simp only [PrgV.names, List.mem_append, List.mem_map] at hs
    rcases hs with (⟨m, h1, rfl⟩ | h1) | ⟨f, h1, rfl⟩
    · exact hp.names _ (by simp only [PrgV.names, List.mem_append, List.mem_map]; exact .inl (.inl ⟨m, h1, rfl⟩))
    · exact hp.names _ (by simp only [PrgV.names, List.mem_append, List.mem_map]; exact .inl (.inr h1))
    · exact hn f h1
  cl := fun f hf => (hc f hf).1
  ins := fun f hf => (hc f hf).2
theorem PrgV.Fit.fname {p : PrgV} (hp : p.Fit) {f : FunV} (hf : f ∈ p.funs) : f.name.size ≤ 9223372036854775807 :=
  hp.names _ (by simp only [PrgV.names, List.mem_append, List.mem_map]; exact .inr ⟨f, hf, rfl⟩)
theorem PrgV.Fit.setC {p : PrgV} (hp : p.Fit) {kd kd' : SK} {n j : Nat} {f : FunV} {x : Ins} (hf : f ∈ p.funs) (hx : x.Ok ∧ x.args.length ≤ 999999999990) : PrgV.Fit { p with fk := kd, funs := p.funs.set n { f with k := kd', code := f.code.set j x } } := by
  refine hp.other (by simp) (fun g hg => ?_) (fun g hg => ?_)
  · rcases List.mem_or_eq_of_mem_set hg with h | rfl
    · exact hp.fname h
    · exact show f.name.size ≤ _ from hp.fname hf
  · rcases List.mem_or_eq_of_mem_set hg with h | rfl
    · exact ⟨hp.cl g h, hp.ins g h⟩
    · refine ⟨by simpa using hp.cl f hf, fun y hy => ?_⟩
      rcases List.mem_or_eq_of_mem_set hy with h | rfl
      · exact hp.ins f hf y h
      · exact hx
theorem PrgV.Fit.turn {p : PrgV} (hp : p.Fit) {kd kd' : SK} {n : Nat} {f a b : FunV} (hf : f ∈ p.funs) (ha : a ∈ p.funs) (hb : b ∈ p.funs) : PrgV.Fit { p with fk := kd, funs := turnL (p.funs.set n { f with k := kd' }) a.name b.name } := by
  have hL : ∀ g ∈ p.funs.set n { f with k := kd' }, g.name.size ≤ 9223372036854775807 ∧ g.code.length ≤ 9223372036854775807 ∧ ∀ x ∈ g.code, x.Ok ∧ x.args.length ≤ 999999999990 := fun g hg => by
    rcases List.mem_or_eq_of_mem_set hg with h | rfl
    · exact ⟨hp.fname h, hp.cl g h, hp.ins g h⟩
    · exact ⟨show f.name.size ≤ _ from hp.fname hf, hp.cl f hf, hp.ins f hf⟩
  refine hp.other (by rw [turnL_len]; simp) (fun g hg => ?_) (fun g hg => ?_)
  · obtain ⟨f2, h2, _, h3⟩ := turnL_mem hg
    rcases h3 with h3 | h3 | h3
    · rw [h3]; exact (hL f2 h2).1
    · rw [h3]; exact hp.fname ha
    · rw [h3]; exact hp.fname hb
  · obtain ⟨f2, h2, h3, _⟩ := turnL_mem hg
    rw [h3]
    exact (hL f2 h2).2
theorem PrgV.Fit.cmp {p : PrgV} (hp : p.Fit) : p.Cmp := by
  have hm : maxLen = 9223372036854775807 := rfl
  have := hp.tot
  exact ⟨by omega, by omega, by omega, fun f hf => by have := hp.cl f hf; omega, fun f hf x hx => (hp.ins f hf x hx).1⟩

theorem heap_back {H : AHeap} {o : Nat} {a b : AObj} (h : H o = some b) : (H.set o a).set o b = H := by
  funext j
  simp only [AHeap.set]
  split
  · rename_i e; subst e; exact h.symm
  · rfl

section
variable {p q : PrgV} {x : Ins} {A : Nat → AV} {H : AHeap} {N : Nat} {fs : List Fr} {Q : Post} {n : Int} {k j o o1 o2 : Nat} {f : FunV}

theorem par_c1 {mk lk : AV} {cs : List AV} {len : Nat} (hkl : k < len) (hj : j < f.code.length) (hc : cs[k * 5 + 4]? = some (.ms o2 0 f.code.length 6)) (h7 : A 7 = .ip x.cells 0) (h9 : A 9 = i64 (k : Nat)) (h11 : A 11 = i64 (j : Nat)) (h10 : A 10 = .mp o 0)
    (ho : H o = some (.blk [mk, lk, .ms o1 0 len 5])) (ho1 : H o1 = some (.blk cs)) (ho2 : H o2 = some (.blk (codeCells f.code).flatten))
    (hk : ∀ A', (∀ t ∈ [4, 7, 9, 10, 11], A' t = A t) → onward Tryd.prog fs Q .normal ⟨A', H.set o2 (.blk (codeCells (f.code.set j x)).flatten), N⟩) :
    run Tryd.prog a_par_c1 fs Q ⟨A, H, N⟩ := by
  have hq : aindex 5 (.ms o1 0 len 5) (i64 (k : Nat)) = some (.mp o1 (k * 5)) := by simp [aindex, hkl]
  have hq2 : aindex 6 (.ms o2 0 f.code.length 6) (i64 (j : Nat)) = some (.mp o2 (j * 6)) := by simp [aindex, hj]
  have hlen : (codeCells f.code).flatten.length = f.code.length * 6 := by rw [flatten_len (codeCells_sz _), codeCells_len]
  have hsp : splice (j * 6) x.cells (codeCells f.code).flatten = (codeCells (f.code.set j x)).flatten := by
    show (codeCells f.code).flatten.take (j * 6) ++ x.cells ++ (codeCells f.code).flatten.drop (j * 6 + x.cells.length) = _
    rw [List.append_assoc, x.len, flat_splice (codeCells_sz _) (by rw [codeCells_len]; exact hj)]
    simp only [codeCells, List.map_set]
  simp [a_par_c1, h7, h9, h10, h11, ho, ho1, ho2, hq, hq2, hc, hlen, hsp, show j * 6 + 6 ≤ f.code.length * 6 by omega, -List.length_flatten]
  exact hk _ (by simp [h7, h9, h10, h11])

theorem par_c3 {mk lk : AV} {cs : List AV} {len : Nat} {c : List Ins} (hkf : p.funs[k]? = some f) (hkl : k < len) (hj : j < f.code.length) (hcl : c.length = f.code.length) (hc : cs[k * 5 + 4]? = some (.ms o2 0 f.code.length 6)) (h4 : A 4 = .ip p.cells 0) (h9 : A 9 = i64 (k : Nat)) (h11 : A 11 = i64 (j : Nat)) (h10 : A 10 = .mp o 0)
    (ho : H o = some (.blk [mk, lk, .ms o1 0 len 5])) (ho1 : H o1 = some (.blk cs)) (ho2 : H o2 = some (.blk (codeCells c).flatten))
    (hk : ∀ A', (∀ t ∈ [4, 10], A' t = A t) → onward Tryd.prog fs Q .normal ⟨A', H.set o2 (.blk (codeCells (c.set j f.code[j])).flatten), N⟩) :
    run Tryd.prog a_par_c3 fs Q ⟨A, H, N⟩ := by
  have hlt : k < p.funs.length := (List.getElem?_eq_some_iff.1 hkf).1
  have hfe : p.funs[k] = f := (List.getElem?_eq_some_iff.1 hkf).2
  have hqp : aindex 5 (.sl p.fk 5 (funCells p.funs)) (i64 (k : Nat)) = some (.ip p.funs[k].cells 0) := elem_of hlt
  rw [hfe] at hqp
  have hqc : aindex 6 (.sl f.k 6 (codeCells f.code)) (i64 (j : Nat)) = some (.ip f.code[j].cells 0) := elem_of hj
  have hq : aindex 5 (.ms o1 0 len 5) (i64 (k : Nat)) = some (.mp o1 (k * 5)) := by simp [aindex, hkl]
  have hq2 : aindex 6 (.ms o2 0 f.code.length 6) (i64 (j : Nat)) = some (.mp o2 (j * 6)) := by simp [aindex, hj]
  have hlen : (codeCells c).flatten.length = f.code.length * 6 := by rw [flatten_len (codeCells_sz _), codeCells_len, hcl]
  have hsp : splice (j * 6) f.code[j].cells (codeCells c).flatten = (codeCells (c.set j f.code[j])).flatten := by
    show (codeCells c).flatten.take (j * 6) ++ f.code[j].cells ++ (codeCells c).flatten.drop (j * 6 + f.code[j].cells.length) = _
    rw [List.append_assoc, Ins.len, flat_splice (codeCells_sz _) (by rw [codeCells_len, hcl]; exact hj)]
    simp only [codeCells, List.map_set]
  simp [a_par_c3, h4, h9, h10, h11, ho, ho1, ho2, hq, hq2, hqp, hqc, hc, hlen, hsp, show j * 6 + 6 ≤ f.code.length * 6 by omega, -List.length_flatten]
  exact hk _ (by simp [h4, h10])

theorem one_arg {b c : AV} (h : View H b c) : ∀ (i : Nat) (x y : AV), [b][i]? = some x → [c][i]? = some y → x = y ∨ View H x y := fun i x y hx hy => by
  match i, hx, hy with
  | 0, hx, hy => cases hx; cases hy; exact .inr h
  | i + 1, hx, hy => cases hx

theorem par_c2 (hp : p.Fit) (hb : prgB p = true) (hx : x.Ok ∧ x.args.length ≤ 999999999990) (hkf : p.funs[k]? = some f) (hj : j + 1 < f.code.length) (h4 : A 4 = .ip p.cells 0) (h7 : A 7 = .ip x.cells 0) (h9 : A 9 = i64 (k : Nat)) (h10 : A 10 = .mp o 0)
    (ho : H o = some (.blk [.sl p.mmk 3 (memCells p.mems), .sl p.lk 1 (lockCells p.locks), .ms o1 0 p.funs.length 5])) (ho1 : H o1 = some (.blk ((funCells p.funs).flatten.set (k * 5 + 4) (.ms o2 0 f.code.length 6)))) (ho2 : H o2 = some (.blk (codeCells (f.code.set j x)).flatten))
    (hk : ∀ A', (∀ t ∈ [4, 9, 10, 11], A' t = A t) → onward Tryd.prog fs Q .normal ⟨A', H, N⟩) : run Tryd.prog a_par_c2 fs Q ⟨A, H, N⟩ := by
  have hfm := List.mem_of_getElem? hkf
  have hkl : k < p.funs.length := (List.getElem?_eq_some_iff.1 hkf).1
  have hvc : View H (.ms o2 0 f.code.length 6) (.sl .any 6 (codeCells (f.code.set j x))) := view_flat (codeCells_sz _) (codeCells_free _) (by rw [codeCells_len, List.length_set]) ho2
  have hpw := (PW.refl (H := H) (freeL_flat (funCells_free p.funs))).set (k * 5 + 4) hvc
  rw [code_flat (kd := .any) (c := f.code.set j x) hkf] at hpw
  have hvf := hpw.view (funCells_sz' _) (n := p.funs.length) (by rw [funCells_len', List.length_set]) ho1
  have hm : maxLen = 9223372036854775807 := rfl
  have ht := hp.tot
  have hmi := p_MayIns (p := p) (n := (k : Nat)) hx.1 hx.2
  have e : p.funs[((k : Nat) : Int).toNat]? = some f := hkf
  simp only [e] at hmi
  rw [show within ((k : Nat) : Int) (p.funs.length : Int) = true by simp [within, hkl], Bool.true_and] at hmi
  simp [a_par_c2, h4, h7, h9, h10, ho]
  refine (p_May (hp.setC (kd := .any) (kd' := .any) (n := k) (j := j) hfm hx)).seen rfl (one_arg (view_prog hvf)) ?_
  rw [prgB_set hb hkf hj]
  simp
  refine hmi.acall ?_
  simp
  exact hk _ (by simp [h4, h9, h10])

theorem par_c (hp : p.Fit) (hb : prgB p = true) (hx : x.Ok ∧ x.args.length ≤ 999999999990) (hkf : p.funs[k]? = some f) (hj : j < f.code.length) (hc1 : f.code.length ≤ 16384) (h12' : o ≠ o2) (h12 : o1 ≠ o2) (h4 : A 4 = .ip p.cells 0) (h7 : A 7 = .ip x.cells 0) (h9 : A 9 = i64 (k : Nat)) (h11 : A 11 = i64 (j : Nat)) (h10 : A 10 = .mp o 0)
    (ho : H o = some (.blk [.sl p.mmk 3 (memCells p.mems), .sl p.lk 1 (lockCells p.locks), .ms o1 0 p.funs.length 5])) (ho1 : H o1 = some (.blk ((funCells p.funs).flatten.set (k * 5 + 4) (.ms o2 0 f.code.length 6)))) (ho2 : H o2 = some (.blk (codeCells f.code).flatten))
    (hk : ∀ A', (∀ t ∈ [4, 10], A' t = A t) → onward Tryd.prog fs Q .normal ⟨A', H, N⟩) : run Tryd.prog a_par_c fs Q ⟨A, H, N⟩ := by
  have hkl : k < p.funs.length := (List.getElem?_eq_some_iff.1 hkf).1
  have hlen : (funCells p.funs).flatten.length = p.funs.length * 5 := by rw [flatten_len (funCells_sz' _), funCells_len']
  have hc : ((funCells p.funs).flatten.set (k * 5 + 4) (.ms o2 0 f.code.length 6))[k * 5 + 4]? = some (.ms o2 0 f.code.length 6) := by rw [List.getElem?_set_self (by rw [hlen]; omega)]
  have hq : aindex 5 (.ms o1 0 p.funs.length 5) (i64 (k : Nat)) = some (.mp o1 (k * 5)) := by simp [aindex, hkl]
  have hw : IntKind.i64.wrap ((f.code.length : Int) - 1) = (f.code.length : Int) - 1 := wrap_i64 (by omega) (by omega)
  unfold a_par_c
  obtain ⟨_, e1⟩ : ∃ c, a_par_c1 = c := ⟨_, rfl⟩
  rw [e1]
  obtain ⟨_, e2⟩ : ∃ c, a_par_c2 = c := ⟨_, rfl⟩
  rw [e2]
  obtain ⟨_, e3⟩ : ∃ c, a_par_c3 = c := ⟨_, rfl⟩
  rw [e3]
  by_cases hjl : j + 1 < f.code.length
  · simp [h9, h10, h11, ho, ho1, hq, hc, hw, show (j : Int) < (f.code.length : Int) - 1 by omega]
    rw [← e1]
    refine par_c1 (x := x) (f := f) (k := k) (j := j) (o := o) (o1 := o1) (o2 := o2) (len := p.funs.length) (cs := (funCells p.funs).flatten.set (k * 5 + 4) (.ms o2 0 f.code.length 6)) (mk := .sl p.mmk 3 (memCells p.mems)) (lk := .sl p.lk 1 (lockCells p.locks)) hkl hj hc (by simp [h7]) (by simp [h9]) (by simp [h11]) (by simp [h10]) ho ho1 ho2 fun A2 k2 => ?_
    have a4 : A2 4 = .ip p.cells 0 := (k2 4 (by simp)).trans (by simp [h4])
    have a7 : A2 7 = .ip x.cells 0 := (k2 7 (by simp)).trans (by simp [h7])
    have a9 : A2 9 = i64 (k : Nat) := (k2 9 (by simp)).trans (by simp [h9])
    have a10 : A2 10 = .mp o 0 := (k2 10 (by simp)).trans (by simp [h10])
    have a11 : A2 11 = i64 (j : Nat) := (k2 11 (by simp)).trans (by simp [h11])
    have go : (H.set o2 (.blk (codeCells (f.code.set j x)).flatten)) o = some (.blk [.sl p.mmk 3 (memCells p.mems), .sl p.lk 1 (lockCells p.locks), .ms o1 0 p.funs.length 5]) := by simp only [AHeap.set]; rw [if_neg h12']; exact ho
    have go1 : (H.set o2 (.blk (codeCells (f.code.set j x)).flatten)) o1 = some (.blk ((funCells p.funs).flatten.set (k * 5 + 4) (.ms o2 0 f.code.length 6))) := by simp only [AHeap.set]; rw [if_neg h12]; exact ho1
    have go2 : (H.set o2 (.blk (codeCells (f.code.set j x)).flatten)) o2 = some (.blk (codeCells (f.code.set j x)).flatten) := by simp [AHeap.set]
    simp
    rw [← e2]
    refine par_c2 (p := p) (x := x) (f := f) (k := k) (j := j) (o := o) (o1 := o1) (o2 := o2) hp hb hx hkf hjl a4 a7 a9 a10 go go1 go2 fun A3 k3 => ?_
    replace a4 := (k3 4 (by simp)).trans a4
    replace a9 := (k3 9 (by simp)).trans a9
    replace a10 := (k3 10 (by simp)).trans a10
    replace a11 := (k3 11 (by simp)).trans a11
    simp
    rw [← e3]
    refine par_c3 (p := p) (f := f) (k := k) (j := j) (o := o) (o1 := o1) (o2 := o2) (len := p.funs.length) (c := f.code.set j x) hkf hkl hj (by simp) hc a4 a9 a11 a10 go go1 go2 fun A4 k4 => ?_
    have hback : (f.code.set j x).set j f.code[j] = f.code := by rw [List.set_set, List.set_getElem_self]
    rw [hback, heap_back ho2]
    refine hk _ fun t ht => ?_
    simp only [List.mem_cons, List.not_mem_nil, or_false] at ht
    rcases ht with rfl | rfl
    · exact ((k4 4 (by simp)).trans a4).trans h4.symm
    · exact ((k4 10 (by simp)).trans a10).trans h10.symm
  · simp [h9, h10, h11, ho, ho1, hq, hc, hw, show ¬ (j : Int) < (f.code.length : Int) - 1 by omega]
    exact hk _ (by simp [h4, h10])
end
end Go.Proofs.YtanpcmkhhpaeiaaDoor
