/- flow: which programs of blocks may be, by the reference. -/
import Derived.Test.YtcoepjbipbihfaaGreatDoorVY
namespace Go.Proofs.YtcoepjbipbihfaaGreatDoor
set_option linter.unusedSimpArgs false
set_option linter.unusedVariables false
open Go Go.Fw

theorem p_rInsAt {f : FrmV} {n : Nat} {x : Ins} (hn : n < f.funs.length) (hx : x.Ok) (hl : x.args.length ≤ 999999999990) :
    PCall Tryz.prog 39 [.agg (prgTo f (n + 1)).cells, i64 n, .agg x.cells] (bl (insAt f f.funs[n] x)) := by
  have hP := p_refMayIns (p := prgTo f (n + 1)) (n := (n : Int)) hx hl
  have h1 : within (n : Int) (prgTo f (n + 1)).funs.length = true := by simp [within, prgTo, funsTo_len, hn]
  have h2 : (prgTo f (n + 1)).funs[((n : Int)).toNat]? = some (bareG f.funs[n] f.funs[n].regs) := by
    rw [show ((n : Int)).toNat = n by omega]
    show (funsTo f (n + 1))[n]? = _
    rw [funsTo_at hn, if_pos (by omega)]
  have h3 : mayB (prgTo f (n + 1)) (bareG f.funs[n] f.funs[n].regs) x = insAt f f.funs[n] x := mayB_congr rfl rfl (by
    show (funsTo f (n + 1)).map _ = (f.funs.map fun g => bareG g g.params).map _
    refine List.ext_getElem? fun i => ?_
    by_cases h : i < f.funs.length
    · rw [List.getElem?_map, funsTo_at h]; simp [h, bareG]
    · rw [List.getElem?_eq_none (by simp [funsTo_len]; omega), List.getElem?_eq_none (by simp; omega)]) rfl rfl
  rw [h1, h2, Bool.true_and] at hP
  simp only [h3] at hP
  exact hP

section
variable {f : FrmV} {n o3 id : Nat} {A : Nat → AV} {H : AHeap} {N : Nat} {fs : List Fr} {Q : Post}
/-- The memory in which the program stands. -/
structure Prg3 (f : FrmV) (n o3 id : Nat) (H : AHeap) : Prop where
  h3 : H o3 = some (.blk [.sl f.mmk 3 (memCells f.mems), .sl f.lk 1 (lockCells f.locks), .ms id 0 f.funs.length 5])
  hid : H id = some (.blk (funCells (funsTo f n)).flatten)
theorem Prg3.view (h : Prg3 f n o3 id H) : ViewL H [.sl f.mmk 3 (memCells f.mems), .sl f.lk 1 (lockCells f.locks), .ms id 0 f.funs.length 5] (prgTo f n).cells :=
  .cons (.free (by simp [AV.free, memCells_free])) (.cons (.free (by simp [AV.free, lockCells_free])) (.cons (view_flat (funCells_sz _) (funCells_free _) (by rw [funCells_len]; exact funsTo_len f n) h.hid) .nil))

theorem form_r1 {k : SK} {code : List Ins} (hn : n < f.funs.length) (hc : ∀ x ∈ code, x.Ok ∧ x.args.length ≤ 1500) (hcl : code.length ≤ 140737488355328) (hP : Prg3 f (n + 1) o3 id H) (h3 : A 3 = .mp o3 0) (h6 : A 6 = i64 n) (h8 : A 8 = .sl k 6 (codeCells code)) (h9 : A 9 = i64 0)
    (hk : (zall code fun x _ => insAt f f.funs[n] x) = true → ∀ A', (∀ t ∈ [1, 3, 6, 7], A' t = A t) → onward Tryz.prog fs Q (.exit 6) ⟨A', H, N⟩)
    (hr : (zall code fun x _ => insAt f f.funs[n] x) = false → ∀ A', A' 2 = bl false → onward Tryz.prog fs Q .ret ⟨A', H, N⟩) : run Tryz.prog (.loop a_bobbinref11_MayFormb1) fs Q ⟨A, H, N⟩ := by
  refine run_loop (fun m s => ∃ j, j ≤ code.length ∧ m = code.length - j ∧ s.A 1 = A 1 ∧ s.A 3 = .mp o3 0 ∧ s.A 6 = i64 n ∧ s.A 7 = A 7 ∧ s.A 8 = .sl k 6 (codeCells code) ∧ s.A 9 = i64 j ∧ s.H = H ∧ s.N = N ∧ ∀ i (hi : i < code.length), i < j → insAt f f.funs[n] code[i] = true) code.length ?_ ?_
  · exact ⟨0, by omega, by omega, rfl, h3, h6, rfl, h8, h9, rfl, rfl, fun i _ h => by omega⟩
  · rintro m A1 H1 N1 ⟨j, hj, rfl, e1, e3, e6, e7, e8, e9, eH, eN, hok⟩
    simp only at e1 e3 e6 e7 e8 e9 eH eN
    subst eH; subst eN
    have hw : IntKind.i64.wrap ((j : Int) + 1) = ((j + 1 : Nat) : Int) := by rw [wrap_i64 (by omega) (by omega)]; rfl
    by_cases hje : j = code.length
    · subst hje
      simp [a_bobbinref11_MayFormb1, e8, e9]
      refine hk (zall_iff.2 fun i hi => hok i hi hi) _ ?_
      simp [e1, e3, e6, e7, h3, h6]
    · have hlt : j < code.length := by omega
      obtain ⟨x, hx⟩ : ∃ x, code[j] = x := ⟨_, rfl⟩
      have hxo := hc x (by rw [← hx]; exact List.getElem_mem hlt)
      have hix : aindex 6 (.sl k 6 (codeCells code)) (i64 (j : Nat)) = some (.ip x.cells 0) := aindex_sl (by omega) (by simp [codeCells, hlt, hx])
      have hfr : (AV.agg x.cells).free = true := x.fr
      simp [a_bobbinref11_MayFormb1, e1, e3, e6, e7, e8, e9, hlt, hix, hP.h3]
      refine PCall.seen (p_rInsAt (f := f) hn hxo.1 (by have := hxo.2; omega)) rfl (views (.cons (.agg' hP.view) (.cons (.free rfl) (.cons (.free hfr) .nil)))) ?_
      cases hv : insAt f f.funs[n] x with
      | false =>
        simp
        exact hr (zall_bad hlt (by rw [hx]; exact hv)) _ (by simp)
      | true =>
        simp [e1, e3, e6, e7, e8, e9, hw]
        refine ⟨code.length - (j + 1), by omega, j + 1, by omega, rfl, rfl, fun i hi hij => ?_⟩
        by_cases hij2 : i = j
        · subst hij2; rw [hx]; exact hv
        · exact hok i hi (by omega)

theorem form_r2 (hf : f.Ok) (hn : n < f.funs.length) (hfew : FewG f.funs[n]) (hP : Prg3 f (n + 1) o3 id H) (h1 : A 1 = .ip f.cells 0) (h3 : A 3 = .mp o3 0) (h6 : A 6 = i64 n) (h7 : A 7 = i64 0)
    (hk : grIns f f.funs[n] = true → ∀ A', (∀ t ∈ [1, 3, 6], A' t = A t) → onward Tryz.prog fs Q (.exit 4) ⟨A', H, N⟩)
    (hr : grIns f f.funs[n] = false → ∀ A', A' 2 = bl false → onward Tryz.prog fs Q .ret ⟨A', H, N⟩) : run Tryz.prog (.loop a_bobbinref11_MayFormb2) fs Q ⟨A, H, N⟩ := by
  obtain ⟨g, hg⟩ : ∃ g, f.funs[n] = g := ⟨_, rfl⟩
  have hgo := hf.ok g (by rw [← hg]; exact List.getElem_mem hn)
  have hgb := hgo.bl
  rw [hg] at hfew hk hr
  have hixg : aindex 5 (.sl f.fk 5 (grCells f.funs)) (i64 (n : Nat)) = some (.ip g.cells 0) := aindex_sl (by omega) (by simp [grCells, hn, hg])
  refine run_loop (fun m s => ∃ j, j ≤ g.blocks.length ∧ m = g.blocks.length - j ∧ s.A 1 = .ip f.cells 0 ∧ s.A 3 = .mp o3 0 ∧ s.A 6 = i64 n ∧ s.A 7 = i64 j ∧ s.H = H ∧ s.N = N ∧ ∀ i (hi : i < g.blocks.length), i < j → (zall g.blocks[i].code fun x _ => insAt f g x) = true) g.blocks.length ?_ ?_
  · exact ⟨0, by omega, by omega, h1, h3, h6, h7, rfl, rfl, fun i _ h => by omega⟩
  · rintro m A1 H1 N1 ⟨j, hj, rfl, e1, e3, e6, e7, eH, eN, hok⟩
    simp only at e1 e3 e6 e7 eH eN
    subst eH; subst eN
    have hw : IntKind.i64.wrap ((j : Int) + 1) = ((j + 1 : Nat) : Int) := by rw [wrap_i64 (by omega) (by omega)]; rfl
    by_cases hje : j = g.blocks.length
    · subst hje
      simp [a_bobbinref11_MayFormb2, e1, e3, e6, e7, hixg]
      refine hk (zall_iff.2 fun i hi => hok i hi hi) _ ?_
      simp [e1, e3, e6, h1, h3, h6]
    · have hlt : j < g.blocks.length := by omega
      obtain ⟨b, hb⟩ : ∃ b, g.blocks[j] = b := ⟨_, rfl⟩
      have hbm : b ∈ g.blocks := by rw [← hb]; exact List.getElem_mem hlt
      have hbo := hgo.ok b hbm
      have hix : aindex 4 (.sl g.k 4 (blkCells g.blocks)) (i64 (j : Nat)) = some (.ip b.cells 0) := aindex_sl (by omega) (by simp [blkCells, hlt, hb])
      unfold a_bobbinref11_MayFormb2
      obtain ⟨_, er⟩ : ∃ c, a_bobbinref11_MayFormb1 = c := ⟨_, rfl⟩
      rw [er]
      simp [e1, e3, e6, e7, hixg, hlt, hix]
      rw [← er]
      refine form_r1 (f := f) (n := n) (o3 := o3) (id := id) (k := b.ck) (code := b.code) hn (fun x hx => ⟨(hbo.al x hx).1, hfew b hbm x hx⟩) hbo.cl hP ?_ ?_ ?_ ?_ (fun hz A2 hA2 => ?_) (fun hz A2 h2 => ?_)
      · simp [e3]
      · simp [e6]
      · simp
      · simp
      · have g1 := hA2 1 (by simp)
        have g3 := hA2 3 (by simp)
        have g6 := hA2 6 (by simp)
        have g7 := hA2 7 (by simp)
        simp [e1, e3, e6, e7] at g1 g3 g6 g7
        rw [hg] at hz
        simp [g1, g3, g6, g7, hw]
        refine ⟨g.blocks.length - (j + 1), by omega, j + 1, by omega, rfl, rfl, fun i hi hij => ?_⟩
        by_cases hij2 : i = j
        · subst hij2; rw [hb]; exact hz
        · exact hok i hi (by omega)
      · rw [hg] at hz
        simp
        exact hr (zall_bad hlt (by rw [hb]; exact hz)) _ h2

theorem form_r4 {v0 : AV} (hl : f.funs.length ≤ 1000000000) (hF : Fresh H N) (h1 : A 1 = .ip f.cells 0) (h3 : A 3 = .mp o3 0) (h4 : A 4 = i64 0) (ho3 : H o3 = some (.blk [.sl f.mmk 3 (memCells f.mems), .sl f.lk 1 (lockCells f.locks), .sl .nil 0 []]))
    (hk : ∀ A' H' N' v, A' 1 = A 1 → A' 3 = A 3 → H' o3 = some (.blk [.sl f.mmk 3 (memCells f.mems), .sl f.lk 1 (lockCells f.locks), v]) → Built H' N 5 (.sl .nil 0 []) (funCells (f.funs.map fun g => bareG g g.params)) v → Fresh H' N' → N ≤ N' → onward Tryz.prog fs Q (.exit 0) ⟨A', H', N'⟩) :
    run Tryz.prog (.loop a_bobbinref11_MayFormb4) fs Q ⟨A, H, N⟩ := by
  have hoN : o3 < N := hF.lt ho3
  refine run_loop (fun m s => ∃ j v, j ≤ f.funs.length ∧ m = f.funs.length - j ∧ s.A 1 = .ip f.cells 0 ∧ s.A 3 = .mp o3 0 ∧ s.A 4 = i64 j ∧ s.H o3 = some (.blk [.sl f.mmk 3 (memCells f.mems), .sl f.lk 1 (lockCells f.locks), v]) ∧ Built s.H N 5 (.sl .nil 0 []) (funCells ((f.funs.map fun g => bareG g g.params).take j)) v ∧ Fresh s.H s.N ∧ N ≤ s.N) f.funs.length ?_ ?_
  · exact ⟨0, .sl .nil 0 [], by omega, by omega, h1, h3, h4, ho3, Built.nil, hF, Nat.le_refl _⟩
  · rintro m A1 H1 N1 ⟨j, v, hj, rfl, e1, e3, e4, hh, hB, hF1, hN1⟩
    simp only at e1 e3 e4 hh hB hF1 hN1
    have hw : IntKind.i64.wrap ((j : Int) + 1) = ((j + 1 : Nat) : Int) := by rw [wrap_i64 (by omega) (by omega)]; rfl
    by_cases hje : j = f.funs.length
    · subst hje
      rw [show f.funs.length = (f.funs.map fun g => bareG g g.params).length by simp, List.take_length] at hB
      simp [a_bobbinref11_MayFormb4, e1, e3, e4]
      exact hk _ _ _ v (by simp [e1, h1]) (by simp [e3, h3]) hh hB hF1 hN1
    · have hlt : j < f.funs.length := by omega
      obtain ⟨g, hg⟩ : ∃ g, f.funs[j] = g := ⟨_, rfl⟩
      have hix : aindex 5 (.sl f.fk 5 (grCells f.funs)) (i64 (j : Nat)) = some (.ip g.cells 0) := aindex_sl (by omega) (by simp [grCells, hlt, hg])
      have hsx : splice 0 g.cells [AV.lit (Value.string ⟨#[]⟩), AV.lit (Value.bool false), AV.lit (Value.int .i64 0), AV.lit (Value.int .i64 0), AV.sl .nil 0 []] = g.cells := splice_full (by simp)
      have hB1 := built_later (H' := H1.set N1 (.blk g.cells)) hB hF1 (fun i hi => by simp only [AHeap.set]; rw [if_neg (by omega)])
      have hF2 : Fresh (H1.set N1 (.blk g.cells)) (N1 + 1) := hF1.set _
      obtain ⟨v', H2, N2, happ, hB2, hlow, hN2, hF3⟩ := hB1.push (N := N1 + 1) (bytes := 64) (k := .exact) (x := (bareG g g.params).cells) hF2 (by omega) (by simp) (by simp [lim]; omega) (by simp; omega)
      have hvc := hB1.rd.cells
      have hvc2 := hB2.rd.cells
      have hrow : [AV.lit (Value.string g.name), AV.lit (Value.bool g.thread), AV.lit (Value.int .i64 g.params), AV.lit (Value.int .i64 g.params), AV.sl .exact 6 [[AV.lit (Value.int .u8 11), AV.lit (Value.int .i64 0), AV.lit (Value.int .i64 0), AV.lit (Value.int .i64 0), AV.lit (Value.int .i64 0), .sl .nil 0 []]]] = (bareG g g.params).cells := rfl
      rw [← hrow] at happ
      have hold3 : H2 o3 = some (.blk [.sl f.mmk 3 (memCells f.mems), .sl f.lk 1 (lockCells f.locks), v]) := by rw [hlow o3 (by omega)]; simp only [AHeap.set]; rw [if_neg (by omega)]; exact hh
      simp [a_bobbinref11_MayFormb4, e1, e3, e4, hlt, hix, hsx, hh, show ¬ o3 = N1 by omega, happ, hvc, hvc2, hold3, hw, -AV.cells]
      refine ⟨f.funs.length - (j + 1), by omega, j + 1, by omega, rfl, by omega, ?_, fresh_rewr hF3 hold3, by omega⟩
      have htk : funCells ((f.funs.map fun g => bareG g g.params).take (j + 1)) = funCells ((f.funs.map fun g => bareG g g.params).take j) ++ [(bareG g g.params).cells] := by
        rw [take_next (by simpa using hlt)]
        simp [funCells, hg]
      rw [htk]
      obtain ⟨b1, b2⟩ := hB2
      refine ⟨b1, b2.imp _root_.id ?_⟩
      rintro ⟨hne, i, hid, rfl, hH⟩
      exact ⟨hne, i, hid, rfl, by simp only [AHeap.set]; rw [if_neg (by omega)]; exact hH⟩
end
end Go.Proofs.YtcoepjbipbihfaaGreatDoor

/- flow: which programs of blocks may be, by the reference: the walk. -/
namespace Go.Proofs.YtcoepjbipbihfaaGreatDoor
set_option linter.unusedSimpArgs false
set_option linter.unusedVariables false
open Go Go.Fw

theorem p_rMayForm {f : FrmV} (hf : f.Ok) (ht : f.mems.length + f.locks.length + f.funs.length ≤ 1000000000) (hfew : ∀ g ∈ f.funs, FewG g) : PCall Tryz.prog 13 [.agg f.cells] (bl (formB f)) := by
  refine PCall.of fun N => acallF mixed c_bobbinref11_MayForm (by simp) fun hF => ?_
  obtain ⟨B, hB⟩ : ∃ B, formB f = B := ⟨_, rfl⟩
  rw [hB]
  unfold formB at hB
  have hPm : PCall Tryz.prog 38 [.agg [.sl f.mmk 3 (memCells f.mems), .sl f.lk 1 (lockCells f.locks), bsl (.sl .nil 0 []) 5 (funCells (f.funs.map fun g => bareG g g.params))]] (bl (prgB (bareF f))) := by
    refine (p_refMay (bareF_fit hf ht)).nrm ?_
    by_cases h0 : f.funs = []
    · simp only [bareF, PrgV.cells, h0, if_true]
      rfl
    · simp only [bareF, PrgV.cells, if_neg h0]
      cases hq : f.funs with
      | nil => exact absurd hq h0
      | cons g r => rfl
  unfold a_bobbinref11_MayForm
  obtain ⟨_, e3⟩ : ∃ c, a_bobbinref11_MayFormb3 = c := ⟨_, rfl⟩
  rw [e3]
  obtain ⟨_, e4⟩ : ∃ c, a_bobbinref11_MayFormb4 = c := ⟨_, rfl⟩
  rw [e4]
  simp
  rw [← e4]
  refine form_r4 (f := f) (o3 := N) (v0 := .junk) (by omega) (hF.set _) ?_ ?_ ?_ ?_ (fun A1 H1 N1 v g1 g3 hh hBv hF1 hN1 => ?_)
  · simp
  · simp
  · simp
  · simp
  simp at g1 g3
  have hvc := hBv.rd.cells
  have hN0 : N < N1 := hF1.lt hh
  simp [g3, hh, -AV.cells]
  refine PCall.seen hPm rfl (views (.cons (.agg' (.cons (.free (by simp [AV.free, memCells_free])) (.cons (.free (by simp [AV.free, lockCells_free])) (.cons (hBv.view (funCells_free _)) .nil)))) .nil)) ?_
  cases hp : prgB (bareF f) with
  | false =>
    rw [hp, Bool.false_and] at hB
    simp [← hB]
    exact .free rfl
  | true =>
    rw [hp, Bool.true_and] at hB
    simp [-AV.cells]
    have hid : f.funs ≠ [] → ∃ id, v = .ms id 0 f.funs.length 5 ∧ H1 id = some (.blk (funCells (funsTo f 0)).flatten) := fun h0 => by
      obtain ⟨_, ⟨h1, _⟩ | ⟨_, id, _, h2, h3⟩⟩ := hBv
      · cases hq : f.funs with
        | nil => exact absurd hq h0
        | cons g r => rw [hq] at h1; cases h1
      · rw [funsTo_zero]
        exact ⟨id, by rw [h2, funCells_len, List.length_map], h3⟩
    rw [← e3]
    refine run_loop (fun m s => ∃ n, n ≤ f.funs.length ∧ m = f.funs.length - n ∧ s.A 1 = .ip f.cells 0 ∧ s.A 3 = .mp N 0 ∧ s.A 6 = i64 n ∧ s.H N = some (.blk [.sl f.mmk 3 (memCells f.mems), .sl f.lk 1 (lockCells f.locks), v]) ∧ (∀ id, v = .ms id 0 f.funs.length 5 → f.funs ≠ [] → s.H id = some (.blk (funCells (funsTo f n)).flatten)) ∧ Fresh s.H s.N ∧ ∀ i (hi : i < f.funs.length), i < n → (mayG f.funs[i] && grIns f f.funs[i]) = true) f.funs.length ?_ ?_
    · refine ⟨0, by omega, by omega, by simp [g1], by simp [g3], by simp, hh, fun id hv h0 => ?_, hF1, fun i _ h => by omega⟩
      obtain ⟨id', h1, h2⟩ := hid h0
      rw [hv] at h1
      cases h1
      exact h2
    · rintro m A2 H2 N2 ⟨n, hn, rfl, k1, k3, k6, ho3, hfun, hF2, hok⟩
      simp only at k1 k3 k6 ho3 hfun hF2
      by_cases hne : n = f.funs.length
      · subst hne
        have : B = true := by
          rw [← hB]
          exact zall_iff.2 fun i hi => hok i hi hi
        simp [a_bobbinref11_MayFormb3, k1, k6, this]
        exact .free rfl
      · have hlt : n < f.funs.length := by omega
        have h0 : f.funs ≠ [] := fun h => by rw [h] at hlt; simp at hlt
        obtain ⟨id, hv, _⟩ := hid h0
        have hfn := hfun id hv h0
        subst hv
        obtain ⟨g, hg⟩ : ∃ g, f.funs[n] = g := ⟨_, rfl⟩
        have hgo := hf.ok g (by rw [← hg]; exact List.getElem_mem hlt)
        have hgf := hfew g (by rw [← hg]; exact List.getElem_mem hlt)
        have hix : aindex 5 (.sl f.fk 5 (grCells f.funs)) (i64 (n : Nat)) = some (.ip g.cells 0) := aindex_sl (by omega) (by simp [grCells, hlt, hg])
        have hw : IntKind.i64.wrap ((n : Int) + 1) = ((n + 1 : Nat) : Int) := by rw [wrap_i64 (by omega) (by omega)]; rfl
        have hix2 : aindex 5 (.ms id 0 f.funs.length 5) (i64 (n : Nat)) = some (.mp id (n * 5)) := by simp [aindex, hlt]
        have hne1 : id ≠ N := fun h => by
          rw [h, ho3] at hfn
          have h1 := congrArg (fun x => match x with | some (AObj.blk cs) => cs.length | _ => 0) hfn
          simp only [List.length_cons, List.length_nil] at h1
          rw [flatten_len (funCells_sz _), funCells_len, funsTo_len] at h1
          omega
        have hcl : n * 5 + 3 + 1 ≤ (funCells (funsTo f n)).flatten.length := by rw [flatten_len (funCells_sz _), funCells_len, funsTo_len]; omega
        have hnext := funsTo_next hlt
        rw [hg] at hnext
        obtain ⟨CS, hCS⟩ : ∃ CS, (funCells (funsTo f n)).flatten = CS := ⟨_, rfl⟩
        rw [hCS] at hfn hcl hnext
        unfold a_bobbinref11_MayFormb3
        obtain ⟨_, e2⟩ : ∃ c, a_bobbinref11_MayFormb2 = c := ⟨_, rfl⟩
        rw [e2]
        simp [k1, k3, k6, hlt, hix]
        refine (p_rMay_g hgo hgf).acall ?_
        cases hmg : mayG g with
        | false =>
          have : B = false := by rw [← hB]; exact zall_bad hlt (by rw [hg, hmg]; rfl)
          simp [this]
          exact .free rfl
        | true =>
          simp [k1, k3, k6, hix, ho3, hix2, hfn, hcl]
          rw [← e2]
          refine form_r2 (f := f) (n := n) (o3 := N) (id := id) hf hlt (by rw [hg]; exact hgf) ?_ ?_ ?_ ?_ ?_ (fun hz A3 hA3 => ?_) (fun hz A3 h2 => ?_)
          · exact ⟨by simp [show ¬ N = id by omega, ho3], by simp [hnext]⟩
          · simp [k1]
          · simp [k3]
          · simp [k6]
          · simp
          · have q1 := hA3 1 (by simp)
            have q3 := hA3 3 (by simp)
            have q6 := hA3 6 (by simp)
            simp [k1, k3, k6] at q1 q3 q6
            rw [hg] at hz
            simp [q1, q3, q6, hw]
            refine ⟨f.funs.length - (n + 1), by omega, n + 1, by omega, rfl, rfl, ?_, fun _ => hnext, fresh_rewr hF2 hfn, fun i hi hin => ?_⟩
            · simp [show ¬ N = id by omega, ho3]
            · by_cases hij : i = n
              · subst hij
                rw [hg]
                exact ⟨hmg, hz⟩
              · have := hok i hi (by omega)
                simpa using this
          · rw [hg] at hz
            have : B = false := by rw [← hB]; exact zall_bad hlt (by rw [hg, hmg]; exact hz)
            simp [h2, this]
            exact .free rfl
end Go.Proofs.YtcoepjbipbihfaaGreatDoor
