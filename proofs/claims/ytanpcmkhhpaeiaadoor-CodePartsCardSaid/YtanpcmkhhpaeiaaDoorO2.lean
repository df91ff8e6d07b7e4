/- code: the law CodeParts, joined. -/
import Derived.Test.YtanpcmkhhpaeiaaDoorO1
namespace Go.Proofs.YtanpcmkhhpaeiaaDoor
set_option linter.unusedSimpArgs false
set_option linter.unusedVariables false
open Go Go.Fw
section
variable {p q : PrgV} {x : Ins} {A : Nat → AV} {H : AHeap} {N : Nat} {fs : List Fr} {Q : Post} {n : Int} {k j o o1 o2 : Nat} {f a b : FunV}

theorem par_r (hp : p.Fit) (hb : prgB p = true) (hkf : p.funs[k]? = some f) (ha : p.funs[0]? = some a) (hbb : p.funs[p.funs.length - 1]? = some b) (h4 : A 4 = .ip p.cells 0) (h10 : A 10 = .mp o 0) (h12 : A 12 = i64 ((p.funs.length - 1 : Nat) : Int))
    (ho : H o = some (.blk [.sl p.mmk 3 (memCells p.mems), .sl p.lk 1 (lockCells p.locks), .ms o1 0 p.funs.length 5])) (ho1 : H o1 = some (.blk ((((funCells p.funs).flatten.set (k * 5 + 4) (.ms o2 0 f.code.length 6)).set 0 (str b.name)).set ((p.funs.length - 1) * 5) (str a.name)))) (ho2 : H o2 = some (.blk (codeCells f.code).flatten))
    (hk : ∀ A', A' 8 = bl true → onward Tryd.prog fs Q .normal ⟨A', H, N⟩) : run Tryd.prog a_par_r fs Q ⟨A, H, N⟩ := by
  have hfm := List.mem_of_getElem? hkf
  have hkl : k < p.funs.length := (List.getElem?_eq_some_iff.1 hkf).1
  have hvc : View H (.ms o2 0 f.code.length 6) (.sl .any 6 (codeCells f.code)) := view_flat (codeCells_sz _) (codeCells_free _) (by rw [codeCells_len]) ho2
  have hpw := (((PW.refl (H := H) (freeL_flat (funCells_free p.funs))).set (k * 5 + 4) hvc).set 0 (a := str b.name) (b := str b.name) (.free rfl)).set ((p.funs.length - 1) * 5) (a := str a.name) (b := str a.name) (.free rfl)
  have hLl : (p.funs.set k { f with k := .any }).length = p.funs.length := by simp
  have e1 : (funCells p.funs).flatten.set (k * 5 + 4) (.sl .any 6 (codeCells f.code)) = (funCells (p.funs.set k { f with k := .any })).flatten := code_flat (kd := .any) (c := f.code) hkf
  have e2 := nm_flat (l := p.funs.set k { f with k := .any }) (j := 0) b.name (by rw [hLl]; omega)
  rw [Nat.zero_mul] at e2
  have e3 := nm_flat (l := nmL (p.funs.set k { f with k := .any }) 0 b.name) (j := p.funs.length - 1) a.name (by rw [nmL_len, hLl]; omega)
  rw [e1, e2, e3] at hpw
  have e4 : nmL (nmL (p.funs.set k { f with k := .any }) 0 b.name) (p.funs.length - 1) a.name = turnL (p.funs.set k { f with k := .any }) a.name b.name := by
    unfold turnL
    rw [hLl]
  rw [e4] at hpw
  have hvf := hpw.view (funCells_sz' _) (n := p.funs.length) (by rw [funCells_len', turnL_len, hLl]) ho1
  have hfit := hp.turn (kd := .any) (kd' := .any) (n := k) hfm (List.mem_of_getElem? ha) (List.mem_of_getElem? hbb)
  simp [a_par_r, h4, h10, h12, ho]
  refine (p_May hfit).seen rfl (one_arg (view_prog hvf)) ?_
  rw [prgB_turn hb hkf ha hbb]
  simp [h4, h10, h12, ho]
  refine (p_Same hp.cmp hfit.cmp).seen rfl (two_args (view_prog hvf)) ?_
  rw [same_turn hb hkf ha hbb]
  simp [h12]
  refine hk _ ?_
  simp
end

theorem p_CodeParts {p : PrgV} {x : Ins} {n m : Int} (hp : p.Rch) (hx : x.Ok) (hxl : x.args.length ≤ 140737488355328) (H : AHeap) (N : Nat) :
    ACall Tryd.prog 7 [.agg p.cells, i64 n, i64 m, .agg x.cells] H N (fun r _ _ => r = bl true) := by
  refine acallF mixed c_bobbinlaw07_CodeParts (by simp) fun hF => ?_
  unfold a_bobbinlaw07_CodeParts
  obtain ⟨_, eg⟩ : ∃ c, a_par_g = c := ⟨_, rfl⟩
  rw [eg]
  obtain ⟨_, ei⟩ : ∃ c, a_par_i = c := ⟨_, rfl⟩
  rw [ei]
  obtain ⟨_, ek⟩ : ∃ c, a_par_k = c := ⟨_, rfl⟩
  rw [ek]
  obtain ⟨_, eq1⟩ : ∃ c, a_par_q1 = c := ⟨_, rfl⟩
  rw [eq1]
  obtain ⟨_, eq2⟩ : ∃ c, a_par_q2 = c := ⟨_, rfl⟩
  rw [eq2]
  obtain ⟨_, eq3⟩ : ∃ c, a_par_q3 = c := ⟨_, rfl⟩
  rw [eq3]
  obtain ⟨_, el⟩ : ∃ c, a_par_l = c := ⟨_, rfl⟩
  rw [el]
  obtain ⟨_, ec⟩ : ∃ c, a_par_c = c := ⟨_, rfl⟩
  rw [ec]
  obtain ⟨_, em⟩ : ∃ c, a_par_m = c := ⟨_, rfl⟩
  rw [em]
  obtain ⟨_, en0⟩ : ∃ c, a_par_n0 = c := ⟨_, rfl⟩
  rw [en0]
  obtain ⟨_, en1⟩ : ∃ c, a_par_n1 = c := ⟨_, rfl⟩
  rw [en1]
  obtain ⟨_, er⟩ : ∃ c, a_par_r = c := ⟨_, rfl⟩
  rw [er]
  simp
  rw [← eg]
  refine par_g (p := p) (x := x) hp hxl (by simp) (by simp) (fun hf hl hx1 hb h0 A1 k1 => ?_) (fun A1 h10 => by simp [h10])
  have a1 : A1 1 = i64 n := (k1 1 (by simp)).trans (by simp)
  have a2 : A1 2 = i64 m := (k1 2 (by simp)).trans (by simp)
  have a4 : A1 4 = .ip p.cells 0 := (k1 4 (by simp)).trans (by simp)
  have a7 : A1 7 = .ip x.cells 0 := (k1 7 (by simp)).trans (by simp)
  simp
  rw [← ei]
  refine par_i (p := p) hf hb a4 fun A2 k2 => ?_
  replace a1 := (k2 1 (by simp)).trans a1
  replace a2 := (k2 2 (by simp)).trans a2
  replace a4 := (k2 4 (by simp)).trans a4
  replace a7 := (k2 7 (by simp)).trans a7
  simp
  rw [← ek]
  refine par_k (p := p) hl h0 a1 a4 fun A3 k hkl a9 k3 => ?_
  replace a2 := (k3 2 (by simp)).trans a2
  replace a4 := (k3 4 (by simp)).trans a4
  replace a7 := (k3 7 (by simp)).trans a7
  clear a1
  obtain ⟨f, hkf⟩ : ∃ f, p.funs[k]? = some f := ⟨_, List.getElem?_eq_getElem hkl⟩
  obtain ⟨a, ha⟩ : ∃ a, p.funs[0]? = some a := ⟨_, List.getElem?_eq_getElem (by omega)⟩
  obtain ⟨b, hbb⟩ : ∃ b, p.funs[p.funs.length - 1]? = some b := ⟨_, List.getElem?_eq_getElem (by omega)⟩
  have hfb : 1 ≤ f.code.length ∧ f.code.length ≤ 16384 := by
    have hb' := hb
    unfold prgB at hb'
    simp only [Bool.and_eq_true, List.all_eq_true] at hb'
    have := hb'.2.2.2 f (List.mem_of_getElem? hkf)
    unfold funB at this
    simp only [Bool.and_eq_true, List.all_eq_true, decide_eq_true_eq] at this
    exact this.1.2.2.2.2.2
  have hlen : (funCells p.funs).flatten.length = p.funs.length * 5 := by rw [flatten_len (funCells_sz' _), funCells_len']
  simp
  rw [← eq1]
  refine par_q1 (p := p) a4 fun A4 k4 a10 => ?_
  replace a2 := (k4 2 (by simp)).trans a2
  replace a4 := (k4 4 (by simp)).trans a4
  replace a7 := (k4 7 (by simp)).trans a7
  replace a9 := (k4 9 (by simp)).trans a9
  simp
  rw [← eq2]
  refine par_q2 (p := p) (o := N) hl h0 a4 a10 (by simp [AHeap.set]) (by omega) fun A5 k5 => ?_
  replace a2 := (k5 2 (by simp)).trans a2
  replace a4 := (k5 4 (by simp)).trans a4
  replace a7 := (k5 7 (by simp)).trans a7
  replace a9 := (k5 9 (by simp)).trans a9
  replace a10 := (k5 10 (by simp)).trans a10
  simp
  rw [← eq3]
  refine par_q3 (p := p) (mk := .sl p.mmk 3 (memCells p.mems)) (lk := .sl p.lk 1 (lockCells p.locks)) (o := N) (o1 := N + 1) (f := f) (len := p.funs.length) (cs := (funCells p.funs).flatten) hkf hkl hlen (by omega) hfb.2 ?_ (by omega) a4 a9 a10 (by simp [AHeap.set]; try (intro h; omega)) (by simp [AHeap.set]; try (intro h; omega)) fun A6 k6 => ?_
  · simp only [AHeap.set]
    rw [if_neg (by omega), if_neg (by omega), if_neg (by omega)]
    exact hF _ (by omega)
  replace a2 := (k6 2 (by simp)).trans a2
  replace a4 := (k6 4 (by simp)).trans a4
  replace a7 := (k6 7 (by simp)).trans a7
  replace a9 := (k6 9 (by simp)).trans a9
  replace a10 := (k6 10 (by simp)).trans a10
  simp
  rw [← el]
  refine par_l (mk := .sl p.mmk 3 (memCells p.mems)) (lk := .sl p.lk 1 (lockCells p.locks)) (o := N) (o1 := N + 1) (o2 := N + 2) (len := p.funs.length) (m := f.code.length) (cs := (funCells p.funs).flatten.set (k * 5 + 4) (.ms (N + 2) 0 f.code.length 6)) hkl (by omega) hfb.2 (by rw [List.getElem?_set_self (by rw [hlen]; omega)]) a2 a9 a10 (by simp [AHeap.set]; try (intro h; omega)) (by simp [AHeap.set]; try (intro h; omega)) fun A7 j hj a11 k7 => ?_
  replace a4 := (k7 4 (by simp)).trans a4
  replace a7 := (k7 7 (by simp)).trans a7
  replace a9 := (k7 9 (by simp)).trans a9
  replace a10 := (k7 10 (by simp)).trans a10
  simp
  rw [← ec]
  refine par_c (p := p) (x := x) (f := f) (k := k) (j := j) (o := N) (o1 := N + 1) (o2 := N + 2) hf hb ⟨hx, by omega⟩ hkf hj hfb.2 (by omega) (by omega) a4 a7 a9 a11 a10 (by simp [AHeap.set]; try (intro h; omega)) (by simp [AHeap.set]; try (intro h; omega)) (by simp [AHeap.set]; try (intro h; omega)) fun A8 k8 => ?_
  replace a4 := (k8 4 (by simp)).trans a4
  replace a10 := (k8 10 (by simp)).trans a10
  simp
  rw [← em]
  refine par_m (mk := .sl p.mmk 3 (memCells p.mems)) (lk := .sl p.lk 1 (lockCells p.locks)) (o := N) (o1 := N + 1) (len := p.funs.length) hl h0 a10 (by simp [AHeap.set]; try (intro h; omega)) fun A9 a12 k9 => ?_
  replace a4 := (k9 4 (by simp)).trans a4
  replace a10 := (k9 10 (by simp)).trans a10
  simp
  rw [← en0]
  refine par_n0 (p := p) (b := b) (mk := .sl p.mmk 3 (memCells p.mems)) (lk := .sl p.lk 1 (lockCells p.locks)) (o := N) (o1 := N + 1) (len := p.funs.length) (cs := (funCells p.funs).flatten.set (k * 5 + 4) (.ms (N + 2) 0 f.code.length 6)) hbb h0 (by rw [List.length_set, hlen]) a4 a12 a10 (by simp [AHeap.set]; try (intro h; omega)) (by simp [AHeap.set]; try (intro h; omega)) fun A10 k10 => ?_
  replace a4 := (k10 4 (by simp)).trans a4
  replace a10 := (k10 10 (by simp)).trans a10
  replace a12 := (k10 12 (by simp)).trans a12
  simp
  rw [← en1]
  refine par_n1 (p := p) (a := a) (mk := .sl p.mmk 3 (memCells p.mems)) (lk := .sl p.lk 1 (lockCells p.locks)) (o := N) (o1 := N + 1) (len := p.funs.length) (j := p.funs.length - 1) (cs := ((funCells p.funs).flatten.set (k * 5 + 4) (.ms (N + 2) 0 f.code.length 6)).set 0 (str b.name)) ha (by omega) (by rw [List.length_set, List.length_set, hlen]) a4 a12 a10 (by simp [AHeap.set]; try (intro h; omega)) (by simp [AHeap.set]; try (intro h; omega)) fun A11 k11 => ?_
  replace a4 := (k11 4 (by simp)).trans a4
  replace a10 := (k11 10 (by simp)).trans a10
  replace a12 := (k11 12 (by simp)).trans a12
  simp
  rw [← er]
  refine par_r (p := p) (f := f) (a := a) (b := b) (k := k) (o := N) (o1 := N + 1) (o2 := N + 2) hf hb hkf ha hbb a4 a10 a12 (by simp [AHeap.set]; try (intro h; omega)) (by simp [AHeap.set]; try (intro h; omega)) (by simp [AHeap.set]; try (intro h; omega)) fun A12 h8 => ?_
  simp [h8]
end Go.Proofs.YtanpcmkhhpaeiaaDoor
