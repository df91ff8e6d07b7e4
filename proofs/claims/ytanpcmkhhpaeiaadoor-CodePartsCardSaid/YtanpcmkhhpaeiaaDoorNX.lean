/- code: all that instructions read and write, and to which they jump, is there. -/
import Derived.Test.YtanpcmkhhpaeiaaDoorNW
import Derived.Test.YtanpcmkhhpaeiaaDoorK6
namespace Go.Proofs.YtanpcmkhhpaeiaaDoor
set_option linter.unusedSimpArgs false
set_option linter.unusedVariables false
open Go Go.Fw

section
variable {p : PrgV} {f : FunV} {x : Ins} {A : Nat → AV} {H : AHeap} {N : Nat} {fs : List Fr} {Q : Post} {v : AV} {k j o lo : Nat}

theorem ins_r (hx : x.Ok) (hl : x.args.length ≤ 999999999990) (hj : f.code[j]? = some x) (h4 : A 4 = .mp o 0) (ho : H o = some (.blk f.cells)) (h5 : A 5 = i64 (j : Nat))
    (hk : ∀ A' H' N' v, N ≤ N' → (∀ j, j < N → H' j = H j) → Fresh H' N' → Built H' N 1 (.sl .nil 0 []) (intCells (readsL x)) v → A' 6 = v → (∀ t ∈ [1, 3, 4, 5], A' t = A t) → onward Tryd.prog fs Q .normal ⟨A', H', N'⟩) :
    run Tryd.prog a_ins_r fs Q ⟨A, H, N⟩ := by
  have hlt : j < f.code.length := (List.getElem?_eq_some_iff.1 hj).1
  have hje : f.code[j] = x := (List.getElem?_eq_some_iff.1 hj).2
  have hq : aindex 6 (.sl f.k 6 (codeCells f.code)) (i64 (j : Nat)) = some (.ip f.code[j].cells 0) := elem_of hlt
  rw [hje] at hq
  simp [a_ins_r, h4, h5, ho, hq]
  refine (p_Reads hx hl _ _).monoF ?_
  rintro v H1 N1 ⟨hN, hk1, hB⟩ hF1 _
  simp
  refine hk _ _ _ v hN hk1 hF1 ?_ (by simp) (by simp [h4, h5])
  obtain ⟨b1, b2⟩ := hB
  exact ⟨b1, b2.imp id fun ⟨a, id, b, c, d⟩ => ⟨a, id, by omega, c, d⟩⟩

theorem ins_w (hx : x.Ok) (hj : f.code[j]? = some x) (h4 : A 4 = .mp o 0) (ho : H o = some (.blk f.cells)) (h5 : A 5 = i64 (j : Nat))
    (hk : ∀ A', A' 7 = i64 (if (ofR x.op).r = true then x.r else 0) → A' 8 = bl (ofR x.op).r → (∀ t ∈ [1, 3, 4, 5, 6], A' t = A t) → onward Tryd.prog fs Q .normal ⟨A', H, N⟩) :
    run Tryd.prog a_ins_w fs Q ⟨A, H, N⟩ := by
  have hlt : j < f.code.length := (List.getElem?_eq_some_iff.1 hj).1
  have hje : f.code[j] = x := (List.getElem?_eq_some_iff.1 hj).2
  have hq : aindex 6 (.sl f.k 6 (codeCells f.code)) (i64 (j : Nat)) = some (.ip f.code[j].cells 0) := elem_of hlt
  rw [hje] at hq
  simp [a_ins_w, h4, h5, ho, hq]
  refine (p_Writes x hx).acall ?_
  simp
  exact hk _ (by simp) (by simp) (by simp [h4, h5])

theorem ins_g (hx : x.Ok) (hj : f.code[j]? = some x) (h4 : A 4 = .mp o 0) (ho : H o = some (.blk f.cells)) (h5 : A 5 = i64 (j : Nat))
    (hk : ∀ A', A' 10 = i64 (if (ofR x.op).n = 7 then x.n else 0) → A' 11 = bl (decide ((ofR x.op).n = 7)) → (∀ t ∈ [1, 3, 4, 5], A' t = A t) → onward Tryd.prog fs Q .normal ⟨A', H, N⟩) :
    run Tryd.prog a_ins_g fs Q ⟨A, H, N⟩ := by
  have hlt : j < f.code.length := (List.getElem?_eq_some_iff.1 hj).1
  have hje : f.code[j] = x := (List.getElem?_eq_some_iff.1 hj).2
  have hq : aindex 6 (.sl f.k 6 (codeCells f.code)) (i64 (j : Nat)) = some (.ip f.code[j].cells 0) := elem_of hlt
  rw [hje] at hq
  simp [a_ins_g, h4, h5, ho, hq]
  refine (p_Goal x hx).acall ?_
  simp
  exact hk _ (by simp) (by simp) (by simp [h4, h5])

theorem ins_p {l : List Int} {b : Bool} {r : Int} (hl : l.length ≤ 999999999996) (hF : Fresh H N) (hlo : lo ≤ N) (hB : Built H lo 1 (.sl .nil 0 []) (intCells l) v) (h6 : A 6 = v) (h7 : A 7 = i64 r) (h8 : A 8 = bl b)
    (hk : ∀ A' H' N' v', N ≤ N' → (∀ j, j < lo → H' j = H j) → Fresh H' N' → Built H' lo 1 (.sl .nil 0 []) (intCells (l ++ if b = true then [r] else [])) v' → A' 6 = v' → (∀ t ∈ [1, 3, 4, 5], A' t = A t) → onward Tryd.prog fs Q .normal ⟨A', H', N'⟩) :
    run Tryd.prog a_ins_p fs Q ⟨A, H, N⟩ := by
  cases b with
  | false =>
    simp [a_ins_p, h6, h7, h8]
    refine hk _ _ _ v (Nat.le_refl _) (fun _ _ => rfl) hF (by simpa using hB) (by simp [h6]) (by simp)
  | true =>
    obtain ⟨v', H', N', happ, hB', hk', hN', hF'⟩ := app_ints (ns := [r]) (y := .sl .exact 1 (intCells [r])) hB hF hlo (by simp [asrc, intCells]) (by simp; omega)
    have happ' : aappend false 1 8 H N v (.sl .exact 1 [[AV.lit (Value.int IntKind.i64 r)]]) = some (v', H', N') := happ
    simp [a_ins_p, h6, h7, h8, happ']
    refine hk _ _ _ v' hN' hk' hF' (by simpa using hB') (by simp) (by simp)

theorem ins_l {l : List Int} (hl : l.length ≤ 999999999996) (hin : ∀ y ∈ l, 0 ≤ y ∧ y < f.regs) (h4 : A 4 = .mp o 0) (ho : H o = some (.blk f.cells)) (hB : RdSl H 1 (intCells l) v) (h6 : A 6 = v)
    (hk : ∀ A', (∀ t ∈ [1, 3, 4, 5], A' t = A t) → onward Tryd.prog fs Q .normal ⟨A', H, N⟩) : run Tryd.prog a_ins_l fs Q ⟨A, H, N⟩ := by
  have hL := hB.len
  rw [intCells_len] at hL
  have l3 : aload H false 1 (.mp o 3) = some (i64 f.regs) := by simp [aload, apart, ho, FunV.cells]
  simp [a_ins_l]
  refine run_loop (fun m s => ∃ j, j ≤ l.length ∧ m = l.length - j ∧ (∀ t ∈ [1, 3, 4, 5], s.A t = A t) ∧ s.A 6 = v ∧ s.A 9 = i64 j ∧ s.H = H ∧ s.N = N) l.length ?_ ?_
  · exact ⟨0, by omega, by omega, by simp, by simp [h6], by simp, rfl, rfl⟩
  · rintro m A1 H1 N1 ⟨j, hj, rfl, ek, e6, e9, rfl, rfl⟩
    simp only at ek e6 e9
    have e1 := ek 1 (by simp)
    have e3 := ek 3 (by simp)
    have e4 := ek 4 (by simp)
    have e5 := ek 5 (by simp)
    by_cases hjl : j = l.length
    · simp [a_bobbinlaw07_insideb1, e6, e9, hL, hjl, -alen]
      exact hk _ (by simp [e1, e3, e4, e5])
    · have hlt : j < l.length := by omega
      obtain ⟨q, hq, qq⟩ := hB.at (intCells_sz l) (intCells_at hlt)
      have lq := qq.one
      have hy := hin _ (List.getElem_mem hlt)
      have e4' := e4.trans h4
      simp [a_bobbinlaw07_insideb1, e6, e9, e4', hL, hlt, hq, lq, l3, show ¬ l[j] < 0 by omega, show ¬ f.regs ≤ l[j] by omega, -alen, -aload]
      refine ⟨l.length - (j + 1), by omega, j + 1, by omega, rfl, ⟨e1, e3, h4.symm, e5⟩, ?_⟩
      rw [wrap_i64 (by omega) (by omega)]; rfl

theorem ins_e (hp : p.Ok) (hx : x.Ok) (hl : x.args.length ≤ 999999999990) (hkf : p.funs[k]? = some f) (hj : f.code[j]? = some x) (hm : mayB p f x = true) (h1 : A 1 = .ip p.cells 0) (h3 : A 3 = i64 (k : Nat)) (h4 : A 4 = .mp o 0) (ho : H o = some (.blk f.cells)) (h5 : A 5 = i64 (j : Nat))
    (h10 : A 10 = i64 (if (ofR x.op).n = 7 then x.n else 0)) (h11 : A 11 = bl (decide ((ofR x.op).n = 7)))
    (hk : ∀ A', (∀ t ∈ [1, 3, 4, 5], A' t = A t) → onward Tryd.prog fs Q .normal ⟨A', H, N⟩) : run Tryd.prog a_ins_e fs Q ⟨A, H, N⟩ := by
  have hlt : j < f.code.length := (List.getElem?_eq_some_iff.1 hj).1
  have hje : f.code[j] = x := (List.getElem?_eq_some_iff.1 hj).2
  have hq : aindex 6 (.sl f.k 6 (codeCells f.code)) (i64 (j : Nat)) = some (.ip f.code[j].cells 0) := elem_of hlt
  rw [hje] at hq
  have hkl : k < p.funs.length := (List.getElem?_eq_some_iff.1 hkf).1
  have hmi := p_MayIns (p := p) (n := (k : Nat)) hx hl
  have e : p.funs[((k : Nat) : Int).toNat]? = some f := hkf
  simp only [e, hm, Bool.and_true] at hmi
  rw [show within ((k : Nat) : Int) (p.funs.length : Int) = true by simp [within, hkl]] at hmi
  by_cases h7 : (ofR x.op).n = 7
  · have hn : within x.n f.code.length = true := by
      have := hm
      unfold mayB mayA numOk at this
      simp only [Bool.and_eq_true] at this
      have := this.1.2.2
      simpa [h7] using this
    simp only [within, decide_eq_true_eq] at hn
    simp [a_ins_e, h1, h3, h4, h5, ho, h10, h11, h7, hq, codeCells_len, show ¬ x.n < 0 by omega, show ¬ (f.code.length : Int) ≤ x.n by omega]
    refine hmi.acall ?_
    simp
    exact hk _ (by simp [h1, h3, h4, h5])
  · simp [a_ins_e, h1, h3, h4, h5, ho, h10, h11, h7, hq]
    refine hmi.acall ?_
    simp
    exact hk _ (by simp [h1, h3, h4, h5])

theorem inside_law (hm : mayB p f x = true) : ∀ y ∈ readsL x ++ (if (ofR x.op).r = true then [if (ofR x.op).r = true then x.r else 0] else []), 0 ≤ y ∧ y < f.regs := by
  unfold mayB regsOk at hm
  simp only [Bool.and_eq_true, List.all_eq_true, Bool.or_eq_true] at hm
  intro y hy
  rcases List.mem_append.1 hy with hy | hy
  · simpa [within] using hm.2.1 y hy
  · cases hr : (ofR x.op).r with
    | false => rw [hr] at hy; simp at hy
    | true =>
      rw [hr] at hy hm
      simp at hy
      subst hy
      simpa [within] using hm.2.2

/-- One Fun's instructions. -/
theorem ins_body (hp : p.Ok) (hcl : f.code.length ≤ 16384) (hin : ∀ x ∈ f.code, x.Ok ∧ x.args.length ≤ 999999999990) (hkf : p.funs[k]? = some f) (hm : ∀ x ∈ f.code, mayB p f x = true) (hoN : o < N) (hF : Fresh H N)
    (h1 : A 1 = .ip p.cells 0) (h3 : A 3 = i64 (k : Nat)) (h4 : A 4 = .mp o 0) (ho : H o = some (.blk f.cells)) (h5 : A 5 = i64 0)
    (hk : ∀ A' H' N', N ≤ N' → Fresh H' N' → A' 1 = .ip p.cells 0 → A' 3 = i64 (k : Nat) → onward Tryd.prog fs Q .normal ⟨A', H', N'⟩) :
    run Tryd.prog (.block 2 (.loop a_bobbinlaw07_insideb2)) fs Q ⟨A, H, N⟩ := by
  simp
  refine run_loop (fun m s => ∃ j : Nat, j ≤ f.code.length ∧ m = f.code.length - j ∧ s.A 1 = .ip p.cells 0 ∧ s.A 3 = i64 (k : Nat) ∧ s.A 4 = .mp o 0 ∧ s.A 5 = i64 j ∧ s.H o = some (.blk f.cells) ∧ N ≤ s.N ∧ Fresh s.H s.N) f.code.length ?_ ?_
  · exact ⟨0, by omega, by omega, h1, h3, h4, by simp [h5], ho, Nat.le_refl _, hF⟩
  · rintro m A1 H1 N1 ⟨j, hj, rfl, e1, e3, e4, e5, eo, hN, hF1⟩
    simp only at e1 e3 e4 e5 eo hN hF1
    by_cases hjl : j = f.code.length
    · simp [a_bobbinlaw07_insideb2, e4, e5, eo, hjl, codeCells_len]
      exact hk _ _ _ hN hF1 (by simp [e1]) (by simp [e3])
    · have hlt : j < f.code.length := by omega
      obtain ⟨x, hx⟩ : ∃ x, f.code[j]? = some x := ⟨_, List.getElem?_eq_getElem hlt⟩
      have hxm := List.mem_of_getElem? hx
      obtain ⟨hxo, hxl⟩ := hin x hxm
      have hmx := hm x hxm
      have hrl := readsL_len x
      unfold a_bobbinlaw07_insideb2
      obtain ⟨_, er⟩ : ∃ c, a_ins_r = c := ⟨_, rfl⟩
      rw [er]
      obtain ⟨_, ew⟩ : ∃ c, a_ins_w = c := ⟨_, rfl⟩
      rw [ew]
      obtain ⟨_, ep⟩ : ∃ c, a_ins_p = c := ⟨_, rfl⟩
      rw [ep]
      obtain ⟨_, el⟩ : ∃ c, a_ins_l = c := ⟨_, rfl⟩
      rw [el]
      obtain ⟨_, eg⟩ : ∃ c, a_ins_g = c := ⟨_, rfl⟩
      rw [eg]
      obtain ⟨_, ee⟩ : ∃ c, a_ins_e = c := ⟨_, rfl⟩
      rw [ee]
      simp [e4, e5, eo, hlt, codeCells_len]
      rw [← er]
      refine ins_r (f := f) (x := x) (o := o) (j := j) hxo hxl hx (by simp [e4]) eo (by simp [e5]) fun A2 H2 N2 v hN2 hk2 hF2 hB2 d6 k2 => ?_
      have a1 : A2 1 = .ip p.cells 0 := (k2 1 (by simp)).trans (by simp [e1])
      have a3 : A2 3 = i64 (k : Nat) := (k2 3 (by simp)).trans (by simp [e3])
      have a4 : A2 4 = .mp o 0 := (k2 4 (by simp)).trans (by simp [e4])
      have a5 : A2 5 = i64 (j : Nat) := (k2 5 (by simp)).trans (by simp [e5])
      have ho2 : H2 o = some (.blk f.cells) := (hk2 o (by omega)).trans eo
      simp
      rw [← ew]
      refine ins_w (f := f) (x := x) (o := o) (j := j) hxo hx a4 ho2 a5 fun A3 d7 d8 k3 => ?_
      have b6 : A3 6 = v := (k3 6 (by simp)).trans d6
      replace a1 := (k3 1 (by simp)).trans a1
      replace a3 := (k3 3 (by simp)).trans a3
      replace a4 := (k3 4 (by simp)).trans a4
      replace a5 := (k3 5 (by simp)).trans a5
      simp
      rw [← ep]
      refine ins_p (l := readsL x) (lo := N1) (v := v) (by omega) hF2 hN2 hB2 b6 d7 d8 fun A4 H4 N4 v4 hN4 hk4 hF4 hB4 c6 k4 => ?_
      replace a1 := (k4 1 (by simp)).trans a1
      replace a3 := (k4 3 (by simp)).trans a3
      replace a4 := (k4 4 (by simp)).trans a4
      replace a5 := (k4 5 (by simp)).trans a5
      have ho4 : H4 o = some (.blk f.cells) := (hk4 o (by omega)).trans ho2
      have hll := inside_law hmx
      simp
      rw [← el]
      refine ins_l (f := f) (o := o) (v := v4) ?_ hll a4 ho4 hB4.rd c6 fun A5 k5 => ?_
      · rw [List.length_append]
        split <;> simp <;> omega
      replace a1 := (k5 1 (by simp)).trans a1
      replace a3 := (k5 3 (by simp)).trans a3
      replace a4 := (k5 4 (by simp)).trans a4
      replace a5 := (k5 5 (by simp)).trans a5
      simp
      rw [← eg]
      refine ins_g (f := f) (x := x) (o := o) (j := j) hxo hx a4 ho4 a5 fun A6 d10 d11 k6 => ?_
      replace a1 := (k6 1 (by simp)).trans a1
      replace a3 := (k6 3 (by simp)).trans a3
      replace a4 := (k6 4 (by simp)).trans a4
      replace a5 := (k6 5 (by simp)).trans a5
      simp
      rw [← ee]
      refine ins_e (p := p) (f := f) (x := x) (o := o) (j := j) (k := k) hp hxo hxl hkf hx hmx a1 a3 a4 ho4 a5 d10 d11 fun A7 k7 => ?_
      replace a1 := (k7 1 (by simp)).trans a1
      replace a3 := (k7 3 (by simp)).trans a3
      replace a4 := (k7 4 (by simp)).trans a4
      replace a5 := (k7 5 (by simp)).trans a5
      simp [a5]
      refine ⟨f.code.length - (j + 1), by omega, j + 1, by omega, rfl, a1, a3, a4, ?_, ho4, by omega, hF4⟩
      rw [wrap_i64 (by omega) (by omega)]; rfl
end

theorem p_inside {p : PrgV} (hp : p.Fit) (hb : prgB p = true) : PCall Tryd.prog 23 [.agg p.cells] (bl true) := by
  have ht := hp.tot
  have hm : maxLen = 9223372036854775807 := rfl
  have hpo : p.Ok := ⟨by omega, by omega, by omega, fun f hf => hp.cl f hf⟩
  have hfb : ∀ f ∈ p.funs, f.code.length ≤ 16384 ∧ ∀ x ∈ f.code, mayB p f x = true := by
    intro f hf
    unfold prgB at hb
    simp only [Bool.and_eq_true, List.all_eq_true] at hb
    have := hb.2.2.2 f hf
    unfold funB at this
    simp only [Bool.and_eq_true, List.all_eq_true, decide_eq_true_eq] at this
    exact ⟨this.1.2.2.2.2.2.2, this.2.2⟩
  refine PCall.of fun N => acallF mixed c_bobbinlaw07_inside (by simp) fun hF => ?_
  simp [a_bobbinlaw07_inside]
  refine run_loop (fun m s => ∃ k : Nat, k ≤ p.funs.length ∧ m = p.funs.length - k ∧ s.A 1 = .ip p.cells 0 ∧ s.A 3 = i64 k ∧ Fresh s.H s.N) p.funs.length ?_ ?_
  · exact ⟨0, by omega, by omega, by simp, by simp, hF⟩
  · rintro m A1 H1 N1 ⟨k, hk, rfl, e1, e3, hF1⟩
    simp only at e1 e3 hF1
    by_cases hkl : k = p.funs.length
    · simp [a_bobbinlaw07_insideb3, e1, e3, hkl]
      exact .free rfl
    · have hlt : k < p.funs.length := by omega
      obtain ⟨f, hf⟩ : ∃ f, p.funs[k]? = some f := ⟨_, List.getElem?_eq_getElem hlt⟩
      have hfe : p.funs[k] = f := (List.getElem?_eq_some_iff.1 hf).2
      have hfm := List.mem_of_getElem? hf
      have hq : aindex 5 (.sl p.fk 5 (funCells p.funs)) (i64 (k : Nat)) = some (.ip p.funs[k].cells 0) := elem_of hlt
      rw [hfe] at hq
      unfold a_bobbinlaw07_insideb3
      obtain ⟨_, e2⟩ : ∃ c, ACode.block 2 (.loop a_bobbinlaw07_insideb2) = c := ⟨_, rfl⟩
      rw [e2]
      simp [e1, e3, hlt, hq]
      rw [← e2]
      refine ins_body (p := p) (f := f) (k := k) (o := N1) hpo (hfb f hfm).1 (hp.ins f hfm) hf (hfb f hfm).2 (by omega) (hF1.set _) (by simp [e1]) (by simp [e3]) (by simp) (by simp [AHeap.set]) (by simp) fun A2 H2 N2 hN2 hF2 d1 d3 => ?_
      simp [d1, d3]
      refine ⟨p.funs.length - (k + 1), by omega, k + 1, by omega, rfl, ?_, hF2⟩
      rw [wrap_i64 (by omega) (by omega)]; rfl
end Go.Proofs.YtanpcmkhhpaeiaaDoor
