/- code: the law CodeSame, joined. -/
import Derived.Test.YtanpcmkhhpaeiaaDoorNU
namespace Go.Proofs.YtanpcmkhhpaeiaaDoor
set_option linter.unusedSimpArgs false
set_option linter.unusedVariables false
open Go Go.Fw

theorem PrgV.Cmp.set {p : PrgV} (hp : p.Cmp) {k : Nat} {g : FunV} {kd : SK} (hc : g.code.length ≤ maxLen) (hi : ∀ x ∈ g.code, x.Ok) : PrgV.Cmp { p with fk := kd, funs := p.funs.set k g } := by
  have hin : ∀ f ∈ p.funs.set k g, f ∈ p.funs ∨ f = g := fun f hf => List.mem_or_eq_of_mem_set hf
  refine ⟨hp.ml, hp.ll, by simpa using hp.fl, fun f hf => ?_, fun f hf => ?_⟩
  · rcases hin f hf with h | rfl
    · exact hp.cl f h
    · exact hc
  · rcases hin f hf with h | rfl
    · exact hp.ins f h
    · exact hi

theorem p_CodeSame {p q : PrgV} {x : Ins} {n m : Int} (hp : p.Rch) (hq : q.Rch) (hx : x.Ok) (H : AHeap) (N : Nat) :
    ACall Tryd.prog 5 [.agg p.cells, .agg q.cells, i64 n, i64 m, .agg x.cells] H N (fun r _ _ => r = bl true) := by
  have hpc := hp.cmp
  refine acallF mixed c_bobbinlaw07_CodeSame (by simp) fun hF => ?_
  unfold a_bobbinlaw07_CodeSame
  obtain ⟨_, eg⟩ : ∃ c, a_same_g = c := ⟨_, rfl⟩
  rw [eg]
  obtain ⟨_, eb⟩ : ∃ c, a_same_b = c := ⟨_, rfl⟩
  rw [eb]
  obtain ⟨_, en⟩ : ∃ c, a_same_n = c := ⟨_, rfl⟩
  rw [en]
  obtain ⟨_, ek⟩ : ∃ c, a_same_k = c := ⟨_, rfl⟩
  rw [ek]
  obtain ⟨_, ex1⟩ : ∃ c, a_same_x1 = c := ⟨_, rfl⟩
  rw [ex1]
  obtain ⟨_, ex2⟩ : ∃ c, a_same_x2 = c := ⟨_, rfl⟩
  rw [ex2]
  obtain ⟨_, ex3⟩ : ∃ c, a_same_x3 = c := ⟨_, rfl⟩
  rw [ex3]
  obtain ⟨_, ey1⟩ : ∃ c, a_same_y1 = c := ⟨_, rfl⟩
  rw [ey1]
  obtain ⟨_, ey2⟩ : ∃ c, a_same_y2 = c := ⟨_, rfl⟩
  rw [ey2]
  obtain ⟨_, ec⟩ : ∃ c, a_same_c = c := ⟨_, rfl⟩
  rw [ec]
  obtain ⟨_, el1⟩ : ∃ c, a_same_l1 = c := ⟨_, rfl⟩
  rw [el1]
  obtain ⟨_, el2⟩ : ∃ c, a_same_l2 = c := ⟨_, rfl⟩
  rw [el2]
  obtain ⟨_, el3⟩ : ∃ c, a_same_l3 = c := ⟨_, rfl⟩
  rw [el3]
  obtain ⟨_, ez1⟩ : ∃ c, a_same_z1 = c := ⟨_, rfl⟩
  rw [ez1]
  obtain ⟨_, ez2⟩ : ∃ c, a_same_z2 = c := ⟨_, rfl⟩
  rw [ez2]
  obtain ⟨_, ez3⟩ : ∃ c, a_same_z3 = c := ⟨_, rfl⟩
  rw [ez3]
  obtain ⟨_, ez4⟩ : ∃ c, a_same_z4 = c := ⟨_, rfl⟩
  rw [ez4]
  obtain ⟨_, er⟩ : ∃ c, a_same_r = c := ⟨_, rfl⟩
  rw [er]
  simp
  rw [← eg]
  refine same_g (p := p) (q := q) hp hq (by simp) (by simp) (fun hl A1 k1 => ?_) (fun A1 h10 => by simp [h10])
  have a2 : A1 2 = i64 n := (k1 2 (by simp)).trans (by simp)
  have a3 : A1 3 = i64 m := (k1 3 (by simp)).trans (by simp)
  have a5 : A1 5 = .ip p.cells 0 := (k1 5 (by simp)).trans (by simp)
  have a6 : A1 6 = .ip q.cells 0 := (k1 6 (by simp)).trans (by simp)
  have a9 : A1 9 = .ip x.cells 0 := (k1 9 (by simp)).trans (by simp)
  simp
  rw [← eb]
  refine same_b (p := p) (q := q) (x := x) hpc hq.cmp hx a5 a6 a9 fun A2 k2 => ?_
  replace a2 := (k2 2 (by simp)).trans a2
  replace a3 := (k2 3 (by simp)).trans a3
  replace a5 := (k2 5 (by simp)).trans a5
  replace a9 := (k2 9 (by simp)).trans a9
  clear a6
  simp
  rw [← en]
  refine same_n (p := p) a5 (fun h0 A3 k3 => ?_) (fun A3 h10 => by simp [h10])
  replace a2 := (k3 2 (by simp)).trans a2
  replace a3 := (k3 3 (by simp)).trans a3
  replace a5 := (k3 5 (by simp)).trans a5
  replace a9 := (k3 9 (by simp)).trans a9
  simp
  rw [← ek]
  refine same_k (p := p) hl h0 a2 a5 fun A4 k hkl a11 k4 => ?_
  replace a3 := (k4 3 (by simp)).trans a3
  replace a5 := (k4 5 (by simp)).trans a5
  replace a9 := (k4 9 (by simp)).trans a9
  clear a2
  obtain ⟨f, hf⟩ : ∃ f, p.funs[k]? = some f := ⟨_, List.getElem?_eq_getElem hkl⟩
  have hfe : p.funs[k] = f := (List.getElem?_eq_some_iff.1 hf).2
  have hfin : f ∈ p.funs := List.mem_of_getElem? hf
  have hname : f.name.size ≤ 140737488355328 := hp.nm _ (by simp only [PrgV.names, List.mem_append, List.mem_map]; exact .inr ⟨f, hfin, rfl⟩)
  simp
  rw [← ex1]
  refine same_x1 (p := p) a5 fun A5 k5 a12 => ?_
  replace a3 := (k5 3 (by simp)).trans a3
  replace a5 := (k5 5 (by simp)).trans a5
  replace a9 := (k5 9 (by simp)).trans a9
  replace a11 := (k5 11 (by simp)).trans a11
  simp
  rw [← ex2]
  refine same_x2 (p := p) (o := N) hl h0 a5 a12 (by simp [AHeap.set]; try (intro h; omega)) (by omega) fun A6 k6 => ?_
  replace a3 := (k6 3 (by simp)).trans a3
  replace a5 := (k6 5 (by simp)).trans a5
  replace a9 := (k6 9 (by simp)).trans a9
  replace a11 := (k6 11 (by simp)).trans a11
  replace a12 := (k6 12 (by simp)).trans a12
  simp
  rw [← ex3]
  refine same_x3 (mk := .sl p.mmk 3 (memCells p.mems)) (lk := .sl p.lk 1 (lockCells p.locks)) (l := p.funs) (o := N) (o1 := N + 1) hf hname hl a11 a12 (by simp [AHeap.set]; try (intro h; omega)) (by simp [AHeap.set]; try (intro h; omega)) fun A7 k7 => ?_
  replace a3 := (k7 3 (by simp)).trans a3
  replace a5 := (k7 5 (by simp)).trans a5
  replace a9 := (k7 9 (by simp)).trans a9
  replace a11 := (k7 11 (by simp)).trans a11
  replace a12 := (k7 12 (by simp)).trans a12
  simp
  rw [← ey1]
  refine same_y1 (p := p) a5 fun A8 k8 a13 => ?_
  replace a3 := (k8 3 (by simp)).trans a3
  replace a5 := (k8 5 (by simp)).trans a5
  replace a9 := (k8 9 (by simp)).trans a9
  replace a11 := (k8 11 (by simp)).trans a11
  replace a12 := (k8 12 (by simp)).trans a12
  simp
  rw [← ey2]
  refine same_y2 (p := p) (k := k) (o := N + 2) ?_ hl hkl a5 a11 a13 (by simp [AHeap.set]; try (intro h; omega)) (by omega) fun A9 H9 N9 v hN9 hF9 hk9 ho9 hB9 k9 => ?_
  · intro j hj
    simp only [AHeap.set]
    rw [if_neg (by omega), if_neg (by omega), if_neg (by omega), if_neg (by omega), if_neg (by omega)]
    exact hF j (by omega)
  replace a3 := (k9 3 (by simp)).trans a3
  replace a5 := (k9 5 (by simp)).trans a5
  replace a9 := (k9 9 (by simp)).trans a9
  replace a11 := (k9 11 (by simp)).trans a11
  replace a12 := (k9 12 (by simp)).trans a12
  replace a13 := (k9 13 (by simp)).trans a13
  simp
  rw [← ec]
  refine same_c (p := p) (o := N) (o1 := N + 1) (oy := N + 2) (g := { f with name := f.name ++ ⟨#[120]⟩ }) hpc hkl (hpc.set (hpc.cl f hfin) (hpc.ins f hfin)) ?_ a5 a12 a13 ?_ ?_ ho9 hB9 fun A10 k10 => ?_
  · rw [hfe]
    refine same_name ?_
    rw [ByteArray.size_append]
    show f.name.size + 1 ≠ f.name.size
    omega
  · exact (hk9 N (by omega) (by omega)).trans (by simp [AHeap.set]; try (intro h; omega))
  · exact (hk9 (N + 1) (by omega) (by omega)).trans (by simp [AHeap.set]; try (intro h; omega))
  replace a3 := (k10 3 (by simp)).trans a3
  replace a5 := (k10 5 (by simp)).trans a5
  replace a9 := (k10 9 (by simp)).trans a9
  replace a11 := (k10 11 (by simp)).trans a11
  clear a12 a13 hB9 ho9 hk9
  simp
  rw [← el1]
  refine same_l1 (p := p) hf a5 a11 fun A11 k11 a14 => ?_
  replace a3 := (k11 3 (by simp)).trans a3
  replace a5 := (k11 5 (by simp)).trans a5
  replace a9 := (k11 9 (by simp)).trans a9
  replace a11 := (k11 11 (by simp)).trans a11
  simp
  rw [← el2]
  refine same_l2 a14 (fun hc0 hc1 A12 k12 => ?_) (fun A12 h10 => by simp [h10])
  replace a3 := (k12 3 (by simp)).trans a3
  replace a5 := (k12 5 (by simp)).trans a5
  replace a9 := (k12 9 (by simp)).trans a9
  replace a11 := (k12 11 (by simp)).trans a11
  replace a14 := (k12 14 (by simp)).trans a14
  simp
  rw [← el3]
  refine same_l3 hc1 hc0 a3 a14 fun A13 j hj a15 k13 => ?_
  replace a5 := (k13 5 (by simp)).trans a5
  replace a9 := (k13 9 (by simp)).trans a9
  replace a11 := (k13 11 (by simp)).trans a11
  replace a14 := (k13 14 (by simp)).trans a14
  simp
  rw [← ez1]
  refine same_z1 (p := p) a5 fun A14 k14 a16 => ?_
  replace a5 := (k14 5 (by simp)).trans a5
  replace a9 := (k14 9 (by simp)).trans a9
  replace a11 := (k14 11 (by simp)).trans a11
  replace a14 := (k14 14 (by simp)).trans a14
  replace a15 := (k14 15 (by simp)).trans a15
  simp
  rw [← ez2]
  refine same_z2 (p := p) (o := N9) hl h0 a5 a16 (by simp [AHeap.set]; try (intro h; omega)) (by omega) fun A15 k15 => ?_
  replace a5 := (k15 5 (by simp)).trans a5
  replace a9 := (k15 9 (by simp)).trans a9
  replace a11 := (k15 11 (by simp)).trans a11
  replace a14 := (k15 14 (by simp)).trans a14
  replace a15 := (k15 15 (by simp)).trans a15
  replace a16 := (k15 16 (by simp)).trans a16
  have hlen : (funCells p.funs).flatten.length = p.funs.length * 5 := by rw [flatten_len (funCells_sz' _), funCells_len']
  simp
  rw [← ez3]
  refine same_z3 (mk := .sl p.mmk 3 (memCells p.mems)) (lk := .sl p.lk 1 (lockCells p.locks)) (o := N9) (o1 := N9 + 1) (f := f) (len := p.funs.length) (cs := (funCells p.funs).flatten) hkl hlen hc0 hc1 ?_ (by omega) a11 a14 a16 (by simp [AHeap.set]; try (intro h; omega)) (by simp [AHeap.set]; try (intro h; omega)) fun A16 k16 => ?_
  · simp only [AHeap.set]
    rw [if_neg (by omega), if_neg (by omega), if_neg (by omega)]
    exact hF9 _ (by omega)
  replace a5 := (k16 5 (by simp)).trans a5
  replace a9 := (k16 9 (by simp)).trans a9
  replace a11 := (k16 11 (by simp)).trans a11
  replace a14 := (k16 14 (by simp)).trans a14
  replace a15 := (k16 15 (by simp)).trans a15
  replace a16 := (k16 16 (by simp)).trans a16
  simp
  rw [← ez4]
  refine same_z4 (mk := .sl p.mmk 3 (memCells p.mems)) (lk := .sl p.lk 1 (lockCells p.locks)) (o := N9) (o1 := N9 + 1) (o2 := N9 + 2) (f := f) (x := x) (len := p.funs.length) (cs := (funCells p.funs).flatten.set (k * 5 + 4) (.ms (N9 + 2) 0 f.code.length 6)) hkl hj ?_ (by rw [List.length_set, hlen]) a9 a11 a15 a16 (by simp [AHeap.set]; try (intro h; omega)) (by simp [AHeap.set]; try (intro h; omega)) (by simp [AHeap.set]; try (intro h; omega)) fun A17 k17 => ?_
  · rw [List.getElem?_set_self (by rw [hlen]; omega)]
  replace a5 := (k17 5 (by simp)).trans a5
  replace a9 := (k17 9 (by simp)).trans a9
  replace a14 := (k17 14 (by simp)).trans a14
  replace a15 := (k17 15 (by simp)).trans a15
  replace a16 := (k17 16 (by simp)).trans a16
  simp
  rw [← er]
  refine same_r (p := p) (o := N9) (o1 := N9 + 1) (o2 := N9 + 2) (f := f) (j := j) (k := k) (cs := []) hpc hx hf hj (hpc.set (by simpa using hpc.cl f hfin) ?_) a5 a9 a14 a15 a16 (by simp [AHeap.set]; try (intro h; omega)) (by simp [AHeap.set]; try (intro h; omega)) (by simp [AHeap.set]; try (intro h; omega)) fun A18 h10 => ?_
  · intro y hy
    rcases List.mem_or_eq_of_mem_set hy with h | rfl
    · exact hpc.ins f hfin y h
    · exact hx
  simp [h10]
end Go.Proofs.YtanpcmkhhpaeiaaDoor
