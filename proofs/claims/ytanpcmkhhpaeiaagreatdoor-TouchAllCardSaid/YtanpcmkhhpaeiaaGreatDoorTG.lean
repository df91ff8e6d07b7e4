/- touch: what is told of closed examples. -/
import Derived.Test.YtanpcmkhhpaeiaaGreatDoorTF
namespace Go.Fw
set_option linter.unusedSimpArgs false
set_option linter.unusedVariables false
set_option linter.unusedSectionVars false
variable [Globals]
open Go
/-- Whatever reads as one value reads as another one. -/
def RT (a b : AV) : Prop := ∀ (e : Env) (v : Value), Rep e a v → Rep e b v
theorem RT.refl (a : AV) : RT a a := fun e v h => h
theorem RT.nil (z z' : Nat) : RT (.sl .nil z []) (.sl .nil z' []) := fun e v hr => by
  obtain ⟨_, _, rfl⟩ | ⟨hk, _⟩ | ⟨hk, _⟩ := rep_sl_inv hr
  · exact .slNil _
  · exact absurd rfl hk
  · exact absurd rfl hk
theorem RT.agg {cs ds : List AV} (hl : cs.length = ds.length) (h : ∀ (i : Nat) (c d : AV), cs[i]? = some c → ds[i]? = some d → RT c d) : RT (.agg cs) (.agg ds) := fun e v hr => by
  cases hr with
  | agg hl1 h1 h2 =>
    refine .agg (hl1.trans hl) h1 fun i d u hd hu => ?_
    have hi : i < cs.length := by have := (List.getElem?_eq_some_iff.1 hd).1; omega
    exact h i cs[i] d (by simp [hi]) hd e u (h2 i cs[i] u (by simp [hi]) hu)
theorem get_of_len' {α β : Type} {l : List α} {m : List β} (h : l.length = m.length) {i : Nat} {y : β} (hy : m[i]? = some y) : ∃ x, l[i]? = some x := by
  have := (List.getElem?_eq_some_iff.1 hy).1
  exact ⟨l[i]'(by omega), List.getElem?_eq_getElem _⟩
theorem RT.sl {k : SK} {sz : Nat} {es fs : List (List AV)} (hl : es.length = fs.length) (hl2 : ∀ (i : Nat) (x y : List AV), es[i]? = some x → fs[i]? = some y → x.length = y.length)
    (h : ∀ (i j : Nat) (x y : List AV) (c d : AV), es[i]? = some x → fs[i]? = some y → x[j]? = some c → y[j]? = some d → RT c d) : RT (.sl k sz es) (.sl k sz fs) := fun e v hr => by
  rcases rep_sl_inv hr with ⟨rfl, hes, rfl⟩ | ⟨hk, b, o, cap, rfl, hcap, hex, hI, hsz, hm⟩ | ⟨hk, hes, ad, rfl⟩
  rotate_right
  · have : fs = [] := List.eq_nil_of_length_eq_zero (by rw [← hl, hes]; rfl)
    subst this
    exact .slE hk
  · have : fs = [] := List.eq_nil_of_length_eq_zero (by rw [← hl, hes]; rfl)
    subst this
    exact .slNil sz
  · rw [hl]
    refine rep_sl_intro hk (fun hne => hI (fun h0 => hne (List.eq_nil_of_length_eq_zero (by rw [← hl, h0]; rfl)))) (by omega) (fun hx => by rw [← hl]; exact hex hx) (fun y hy => ?_) (fun i y hi j d hj => ?_)
    · obtain ⟨i, hi, hy'⟩ := List.getElem_of_mem hy
      have hyi : fs[i]? = some y := by simp [hi, hy']
      obtain ⟨x, hx⟩ := get_of_len' hl hyi
      rw [← hl2 i x y hx hyi]
      exact hsz x (List.mem_of_getElem? hx)
    · obtain ⟨x, hx⟩ := get_of_len' hl hi
      obtain ⟨c, hc⟩ := get_of_len' (hl2 i x y hx hi) hj
      obtain ⟨u, h1, h2, h3⟩ := hm i x hx j c hc
      exact ⟨u, h1, h2, h i j x y c d hx hi hc hj e u h3⟩
/-- A call, whose arguments read as others. -/
theorem ACall.told {P : Program} {f : FuncId} {args args' : List AV} {H : AHeap} {N : Nat} {Q : AV → AHeap → Nat → Prop} (h : ACall P f args' H N Q) (hl : args.length = args'.length)
    (hv : ∀ (i : Nat) (a b : AV), args[i]? = some a → args'[i]? = some b → RT a b) : ACall P f args H N Q :=
  ⟨h.1, fun e vs hH hN hvl hr => h.2 e vs hH hN (hvl.trans hl) fun i c v hc hv' => by
    obtain ⟨a, ha⟩ := get_of_len' hl hc
    exact hv i a c ha hc e v (hr i a v ha hv')⟩
theorem RT.one {b c : AV} (h : RT b c) : ∀ (i : Nat) (x y : AV), [b][i]? = some x → [c][i]? = some y → RT x y := fun i x y hx hy => by
  match i, hx, hy with
  | 0, hx, hy => cases hx; cases hy; exact h
  | i + 1, hx, hy => cases hx
theorem RT.agg3 {a b c a' b' c' : AV} (h0 : RT a a') (h1 : RT b b') (h2 : RT c c') : RT (.agg [a, b, c]) (.agg [a', b', c']) := by
  refine .agg rfl fun i x y hx hy => ?_
  match i, hx, hy with
  | 0, hx, hy => cases hx; cases hy; exact h0
  | 1, hx, hy => cases hx; cases hy; exact h1
  | 2, hx, hy => cases hx; cases hy; exact h2
  | i + 3, hx, hy => cases hx
end Go.Fw
namespace Go.Proofs.YtanpcmkhhpaeiaaGreatDoor
set_option linter.unusedSimpArgs false
set_option linter.unusedVariables false
open Go Go.Fw
def noP0 : PrgV := ⟨.nil, .nil, .nil, [], [], []⟩
def badP0 : PrgV := ⟨.nil, .nil, .exact, [], [], [⟨⟨#[]⟩, false, 0, 0, .nil, []⟩]⟩
theorem noP0_rt : RT (.agg [.sl .nil 0 [], .sl .nil 0 [], .sl .nil 0 []]) (.agg noP0.cells) := .agg3 (.nil 0 3) (.nil 0 1) (.nil 0 5)
theorem badP0_rt : RT (.agg [.sl .nil 0 [], .sl .nil 0 [], .sl .exact 5 [[str ⟨#[]⟩, bl false, i64 0, i64 0, .sl .nil 0 []]]]) (.agg badP0.cells) := by
  refine .agg3 (.nil 0 3) (.nil 0 1) (.sl rfl (fun i x y hx hy => ?_) fun i j x y c d hx hy hc hd => ?_)
  · match i, hx, hy with
    | 0, hx, hy => cases hx; cases hy; rfl
    | i + 1, hx, hy => cases hx
  · match i, hx, hy with
    | 0, hx, hy =>
      cases hx; cases hy
      match j, hc, hd with
      | 0, hc, hd => cases hc; cases hd; exact .refl _
      | 1, hc, hd => cases hc; cases hd; exact .refl _
      | 2, hc, hd => cases hc; cases hd; exact .refl _
      | 3, hc, hd => cases hc; cases hd; exact .refl _
      | 4, hc, hd => cases hc; cases hd; exact .nil 0 6
      | j + 5, hc, hd => cases hc
    | i + 1, hx, hy => cases hx
theorem noP0_may : prgB noP0 = true := by kernel_rfl
theorem badP0_may : prgB badP0 = false := by kernel_rfl
theorem noP0_fit : fitB' noP0 = true := by kernel_rfl
theorem badP0_fit : fitB' badP0 = true := by kernel_rfl
def nmC : List Ins := [j5 10 0 0 0 5, j5 10 0 0 0 3, j5 10 0 0 0 5, j5 6 0 0 0 (-1)]
theorem nm_own {f : Nat} (hf : f < 5) {t : List Int} (ht : t.Pairwise (· < ·)) (hm : ∀ v, (∃ x ∈ nmC, x.op = opK f ∧ x.n = v) ↔ v ∈ t) : (ownV nmC).get f = t :=
  eq_of_lt _ _ (ownV_lt _ _) ht fun v => by rw [ownV_mem hf, hm]
theorem nm_c : (ownV nmC).c = [3, 5] := nm_own (f := 4) (by omega) (by simp) fun v => by simp [nmC, j5, opK]; omega
theorem nm_w : (ownV nmC).w = [-1] := nm_own (f := 1) (by omega) (by simp) fun v => by simp [nmC, j5, opK]; omega
theorem noP0_thr : thrL noP0.funs = [] := by kernel_rfl

section
variable {A : Nat → AV} {H : AHeap} {N : Nat} {fs : List Fr} {Q : Post}
theorem tnm_0 {c : List AOper} (hc : o_tnm0 = c) {w1 w2 w3 w4 w5 : AV} {l : List Int} {o : Nat} (h2 : A 2 = i64 4) (h3 : A 3 = .sl .nil 0 []) (h4 : A 4 = i64 0) (h5 : A 5 = .mp o 0) (ho : H o = some (.blk [w1, w2, w3, w4, w5])) (hl : Lst H l w5) (he : l = [3, 5])
    (hk : ∀ A', A' 41 = bl true → A' 5 = A 5 → onward Tryz.prog fs Q .normal ⟨A', H, N⟩) : runOps Tryz.prog c fs Q ⟨A, H, N⟩ := by
  subst hc
  have hcl := hl.cells
  simp [o_tnm0, h2, h3, h4, h5, ho, hcl]
  refine (p_Ints (la := l) (lb := [3, 5]) hl.rd (.sl .exact) (by rw [he]; decide) _).mono ?_
  rintro r3 H3 N3 ⟨rfl, rfl, rfl⟩
  simp [he]
  exact hk _ (by simp) (by simp [h5])
theorem tnm_1 {c : List AOper} (hc : o_tnm1 = c) {w1 w2 w3 w4 w5 : AV} {l : List Int} {o : Nat} (hin : A 41 = bl true) (h5 : A 5 = .mp o 0) (ho : H o = some (.blk [w1, w2, w3, w4, w5])) (hl : Lst H l w2) (he : l = [-1])
    (hk : ∀ A', A' 47 = bl true → onward Tryz.prog fs Q .normal ⟨A', H, N⟩) : runOps Tryz.prog c fs Q ⟨A, H, N⟩ := by
  subst hc
  have hcl := hl.cells
  simp [o_tnm1, hin, h5, ho, hcl]
  refine (p_Ints (la := l) (lb := [-1]) hl.rd (.sl .exact) (by rw [he]; decide) _).mono ?_
  rintro r3 H3 N3 ⟨rfl, rfl, rfl⟩
  simp [he]
  exact hk _ (by simp)
theorem tnm_2 {c : List AOper} (hc : o_tnm2 = c) (hin : A 47 = bl true) (hk : ∀ A' H' N', A' 0 = bl true → onward Tryz.prog fs Q .normal ⟨A', H', N'⟩) : runOps Tryz.prog c fs Q ⟨A, H, N⟩ := by
  subst hc
  simp [o_tnm2, hin, splice]
  have o2 := ACall.told (args := [.agg [.sl .nil 0 [], .sl .nil 0 [], .sl .nil 0 []]]) (p_tThreads (p := noP0) (by decide) H N) rfl (.one noP0_rt)
  refine o2.mono ?_
  rintro v7 H7 N7 ⟨hN7, hk7, hB7⟩
  rw [noP0_thr] at hB7
  have hl7 := hB7.rd.len
  have hl8 : alen 1 v7 = some 0 := hl7
  simp [hl8, -alen]
  refine (p_awake H7 N7).mono ?_
  rintro r8 H8 N8 ⟨rfl, _⟩
  simp
  exact hk _ _ _ (by simp)
end

theorem p_TouchNames (H : AHeap) (N : Nat) : ACall Tryz.prog 5 [] H N (fun r H' N' => r = bl true) := by
  obtain ⟨d0, g0⟩ : ∃ c, o_tnm0 = c := ⟨_, rfl⟩
  obtain ⟨d1, g1⟩ : ∃ c, o_tnm1 = c := ⟨_, rfl⟩
  obtain ⟨d2, g2⟩ : ∃ c, o_tnm2 = c := ⟨_, rfl⟩
  refine acallF mixed c_bobbinlaw18_TouchNames (by simp) fun hF => ?_
  unfold a_bobbinlaw18_TouchNames a_tnm_z
  rw [g0, g1, g2]
  simp [splice]
  have o1 := ACall.told (args := [.agg [.sl .nil 0 [], .sl .nil 0 [], .sl .exact 5 [[str ⟨#[]⟩, bl false, i64 0, i64 0, .sl .nil 0 []]]]]) (p_Of (fit_of' badP0_fit) (shr_of' badP0_fit) H N) rfl (.one badP0_rt)
  refine o1.monoF ?_
  rintro r1 H1 N1 ⟨hN1, hk1, ⟨_, rfl⟩ | ⟨hb, _⟩⟩ hF1 _
  rotate_left
  · rw [badP0_may] at hb; cases hb
  simp [splice]
  have o2 := ACall.told (args := [.agg [.sl .nil 0 [], .sl .nil 0 [], .sl .nil 0 []]]) (p_Of (fit_of' noP0_fit) (shr_of' noP0_fit) H1 N1) rfl (.one noP0_rt)
  refine o2.monoF ?_
  rintro r2 H2 N2 ⟨hN2, hk2, ⟨hb, _⟩ | ⟨_, v, es, ar, rfl, hA, hel, _⟩⟩ hF2 _
  · rw [noP0_may] at hb; cases hb
  have hes : es = [] := List.eq_nil_of_length_eq_zero hel
  subst hes
  obtain ⟨_, ⟨_, rfl⟩ | ⟨h0, _⟩⟩ := hA
  rotate_left
  · exact absurd rfl h0
  simp [splice]
  refine (p_Own (code := nmC) (c0 := str ⟨#[]⟩) (c1 := bl false) (c2 := i64 0) (c3 := i64 0) (.sl .exact) rfl rfl rfl rfl (by decide) N2).monoF ?_
  rintro r3 H3 N3 ⟨hN3, hk3, w1, w2, w3, w4, w5, rfl, hf⟩ hF3 _
  have u1 := hf.r.lst.cells
  have u2 := hf.w.lst.cells
  have u3 := hf.t.lst.cells
  have u4 := hf.g.lst.cells
  have u5 := hf.c.lst.cells
  have kX : ∀ j, j < N3 → (H3.set N3 (.blk [w1, w2, w3, w4, w5])) j = H3 j := fun j hj => by simp only [AHeap.set]; rw [if_neg (by omega)]
  have sX := hf.at.keep hF3 kX
  have bX : (H3.set N3 (.blk [w1, w2, w3, w4, w5])) N3 = some (.blk [w1, w2, w3, w4, w5]) := by simp [AHeap.set]
  simp [splice]
  rw [run_append]
  refine tnm_0 g0 (o := N3) (by simp) (by simp) (by simp) (by simp) bX sX.c nm_c fun B1 r1 k1 => ?_
  simp
  rw [run_append]
  refine tnm_1 g1 (o := N3) r1 (k1.trans (by simp)) bX sX.w nm_w fun B2 r2 => ?_
  simp
  refine tnm_2 g2 r2 fun B3 H4 N4 h0 => ?_
  simp [h0]
end Go.Proofs.YtanpcmkhhpaeiaaGreatDoor
