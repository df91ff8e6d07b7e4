/- CodeIns: the walk through the statement itself. -/
import Derived.Test.YtmgmgeijfkcglaaDoorCB
namespace Go.Proofs.YtmgmgeijfkcglaaDoor
open Go Go.Fw

theorem built_later {H H' : AHeap} {lo sz N : Nat} {z : AV} {es : List (List AV)} {v : AV} (h : Built H lo sz z es v) (hF : Fresh H N) (hk : ∀ j, j < N → H' j = H j) : Built H' lo sz z es v := by
  obtain ⟨b1, b2⟩ := h
  refine ⟨b1, b2.imp id ?_⟩
  rintro ⟨hne, id, hid, rfl, hH⟩
  exact ⟨hne, id, hid, rfl, by rw [hk id (hF.lt hH), hH]⟩

section
variable {p : PrgV} {x y : Ins} {n a c : Int} {b d : Bool} {A : Nat → AV} {H : AHeap} {N : Nat} {fs : List Fr} {Q : Post}

theorem law_z (hp : p.Ok) (h4 : A 4 = .ip p.cells 0) (h6 : A 6 = .ip x.cells 0) (h7 : A 7 = .ip y.cells 0)
    (hk : x.args.length ≤ 5000 → y.args.length ≤ 5000 → ∀ A', (∀ t ∈ [1, 4, 6, 7], A' t = A t) → onward Tryd.prog fs Q .normal ⟨A', H, N⟩)
    (hr : ∀ A', A' 8 = bl true → onward Tryd.prog fs Q .ret ⟨A', H, N⟩) : run Tryd.prog a_CodeIns_z fs Q ⟨A, H, N⟩ := by
  simp [a_CodeIns_z, h4]
  refine (p_large hp H N).mono ?_
  rintro r H' N' ⟨⟨b, rfl⟩, rfl, rfl⟩
  cases b with
  | true =>
    simp
    exact hr _ (by simp)
  | false =>
    by_cases hx : 5000 < x.args.length
    · simp [h6, show (5000 : Int) < x.args.length by omega, intCells_len]
      exact hr _ (by simp)
    · by_cases hy : 5000 < y.args.length
      · simp [h6, h7, show ¬ (5000 : Int) < x.args.length by omega, show (5000 : Int) < y.args.length by omega, intCells_len]
        exact hr _ (by simp)
      · simp [h6, h7, show ¬ (5000 : Int) < x.args.length by omega, show ¬ (5000 : Int) < y.args.length by omega, intCells_len]
        exact hk (by omega) (by omega) _ (by simp)

theorem law_a (hx : x.Ok) (hy : y.Ok) (hlx : x.args.length ≤ 5000) (h1 : A 1 = i64 n) (h4 : A 4 = .ip p.cells 0) (h6 : A 6 = .ip x.cells 0) (h7 : A 7 = .ip y.cells 0)
    (h9 : A 9 = i64 a) (h11 : A 11 = i64 a) (h10 : A 10 = bl b) (h12 : A 12 = bl b) (h13 : A 13 = i64 c) (h15 : A 15 = i64 c) (h14 : A 14 = bl d) (h16 : A 16 = bl d)
    (hk : ∀ A', A' 6 = A 6 → onward Tryd.prog fs Q .normal ⟨A', H, N⟩) : run Tryd.prog a_CodeIns_a fs Q ⟨A, H, N⟩ := by
  simp [a_CodeIns_a, h1, h4, h6, h7, h9, h10, h11, h12, h13, h14, h15, h16]
  have m1 := p_MayIns (p := p) (n := n) hx (by omega)
  have m2 := p_refMayIns (p := p) (n := n) hx (by omega)
  have s1 := p_SameIns x y hx hy
  have s2 := p_refSameIns x y hx hy
  generalize (within n p.funs.length && (match p.funs[n.toNat]? with | some f => mayB p f x | none => false)) = bm at m1 m2
  generalize sameIns x y = bs at s1 s2
  refine m1.acall ?_
  simp
  refine m2.acall ?_
  simp [h6, h7]
  refine s1.acall ?_
  simp
  refine s2.acall ?_
  simp
  exact hk _ (by simp)

theorem law_b {v : AV} {lo : Nat} (hx : x.Ok) (hlx : x.args.length ≤ 5000) (h6 : A 6 = .ip x.cells 0) (h17 : A 17 = v) (hB : Built H lo 1 (.sl .nil 0 []) (intCells (readsL x)) v) (hF : Fresh H N)
    (hk : ∀ A' H' N', A' 6 = A 6 → A' 17 = v → Built H' lo 1 (.sl .nil 0 []) (intCells (readsL x)) v → onward Tryd.prog fs Q .normal ⟨A', H', N'⟩) : run Tryd.prog a_CodeIns_b fs Q ⟨A, H, N⟩ := by
  have hm : maxLen = 9223372036854775807 := rfl
  have := readsL_len x
  simp [a_CodeIns_b, h6, h17]
  refine (p_refReads hx (by omega) _ _).mono ?_
  rintro r H' N' ⟨hN', hold, hR⟩
  simp
  have hB' := built_later hB hF hold
  refine (p_ints hB'.rd hR.rd (by omega) N').mono ?_
  rintro r' H2 N2 ⟨rfl, rfl, rfl⟩
  simp
  exact hk _ _ _ (by simp) (by simp [h17]) hB'

theorem law_c {v : AV} {lo : Nat} {l : List Int} (hl : l.length ≤ 10000) (h17 : A 17 = v) (hB : Built H lo 1 (.sl .nil 0 []) (intCells l) v)
    (hk : ∀ A' H', A' 6 = A 6 → onward Tryd.prog fs Q .normal ⟨A', H', N⟩) : run Tryd.prog a_CodeIns_c fs Q ⟨A, H, N⟩ := by
  have hL := hB.rd.len
  rw [intCells_len] at hL
  simp [a_CodeIns_c]
  refine run_loop (fun m s => ∃ j, j ≤ l.length ∧ m = l.length - j ∧ s.A 6 = A 6 ∧ s.A 17 = v ∧ s.A 18 = i64 j ∧ s.N = N ∧ (l = [] ∨ ∃ id ds, v = .ms id 0 l.length 1 ∧ s.H id = some (.blk ds) ∧ ds.length = l.length)) l.length ?_ ?_
  · refine ⟨0, by omega, by omega, by simp, by simp [h17], by simp, rfl, ?_⟩
    obtain ⟨b1, ⟨h0, _⟩ | ⟨_, id, _, rfl, hH⟩⟩ := hB
    · left; cases l with
      | nil => rfl
      | cons a l => cases h0
    · right
      exact ⟨id, _, by rw [intCells_len], hH, by rw [flatten_len b1, intCells_len, Nat.mul_one]⟩
  · rintro m A1 H1 N1 ⟨j, hj, rfl, e6, e17, e18, rfl, hcase⟩
    simp only at e6 e17 e18 hcase
    by_cases hjl : j = l.length
    · subst hjl
      simp [a_bobbinlaw07_CodeInsb1, e17, e18, hL, -alen]
      exact hk _ _ (by simp [e6])
    · have hlt : j < l.length := by omega
      rcases hcase with rfl | ⟨id, ds, rfl, hH, hds⟩
      · simp at hlt
      · have hq : aindex 1 (.ms id 0 l.length 1) (i64 j) = some (.mp id j) := by simp [aindex, hlt]
        simp [a_bobbinlaw07_CodeInsb1, e17, e18, hlt, hH, hq, hds, show j + 1 ≤ l.length by omega]
        refine ⟨l.length - (j + 1), by omega, j + 1, by omega, rfl, e6, by rw [wrap_i64 (by omega) (by omega)]; rfl⟩

theorem p_CodeIns (hp : p.Ok) (hx : x.Ok) (hy : y.Ok) (H : AHeap) (N : Nat) : ACall Tryd.prog 3 [.agg p.cells, i64 n, .agg x.cells, .agg y.cells] H N (fun r _ _ => r = bl true) := by
  have hm : maxLen = 9223372036854775807 := rfl
  refine acall mixed c_bobbinlaw07_CodeIns (by simp) ?_
  unfold a_bobbinlaw07_CodeIns
  obtain ⟨_, ez⟩ : ∃ c, a_CodeIns_z = c := ⟨_, rfl⟩
  rw [ez]
  obtain ⟨_, ea⟩ : ∃ c, a_CodeIns_a = c := ⟨_, rfl⟩
  rw [ea]
  obtain ⟨_, eb⟩ : ∃ c, a_CodeIns_b = c := ⟨_, rfl⟩
  rw [eb]
  obtain ⟨_, ec⟩ : ∃ c, a_CodeIns_c = c := ⟨_, rfl⟩
  rw [ec]
  simp
  rw [← ez]
  refine law_z (p := p) (x := x) (y := y) hp (by simp) (by simp) (by simp) ?_ ?_
  · intro hlx hly A1 h1
    have e1 : A1 1 = i64 n := (h1 1 (by simp)).trans (by simp)
    have e4 : A1 4 = .ip p.cells 0 := (h1 4 (by simp)).trans (by simp)
    have e6 : A1 6 = .ip x.cells 0 := (h1 6 (by simp)).trans (by simp)
    have e7 : A1 7 = .ip y.cells 0 := (h1 7 (by simp)).trans (by simp)
    have hlen := readsL_len x
    simp [e6]
    refine (p_Writes x hx).acall ?_
    simp [e6]
    refine (p_refWrites x).acall ?_
    simp [e6]
    refine (p_Goal x hx).acall ?_
    simp [e6]
    refine (p_refGoal x).acall ?_
    simp
    rw [← ea]
    refine law_a (p := p) (x := x) (y := y) (n := n) (a := if (ofR x.op).r = true then x.r else 0) (b := (ofR x.op).r) (c := if (ofR x.op).n = 7 then x.n else 0) (d := decide ((ofR x.op).n = 7)) hx hy hlx
      (by simp [e1]) (by simp [e4]) (by simp [e6]) (by simp [e7]) (by simp) (by simp) (by simp) (by simp) (by simp) (by simp) (by simp) (by simp) fun A2 h2 => ?_
    have d6 : A2 6 = .ip x.cells 0 := h2.trans (by simp [e6])
    simp [d6]
    refine (p_Reads hx (by omega) _ _).monoF ?_
    rintro v H3 N3 ⟨hN3, _, hB⟩ hF3 _
    simp
    rw [← eb]
    refine law_b (x := x) (v := v) hx hlx (by simp [d6]) (by simp) hB hF3 fun A4 H4 N4 h6 h17 hB4 => ?_
    have f6 : A4 6 = .ip x.cells 0 := h6.trans (by simp [d6])
    simp
    rw [← ec]
    refine law_c (l := readsL x) (by omega) h17 hB4 fun A5 H5 h65 => ?_
    have g6 : A5 6 = .ip x.cells 0 := h65.trans f6
    simp [g6]
    refine (p_Reads hx (by omega) _ _).monoF ?_
    rintro v1 H6 N6 ⟨hN6, _, hB6⟩ hF6 _
    simp
    refine (p_refReads hx (by omega) _ _).mono ?_
    rintro v2 H7 N7 ⟨hN7, hold, hB7⟩
    simp
    refine (p_ints (built_later hB6 hF6 hold).rd hB7.rd (by omega) N7).mono ?_
    rintro r H8 N8 ⟨rfl, rfl, rfl⟩
    simp
  · intro A1 h8
    simp [h8]

end
end Go.Proofs.YtmgmgeijfkcglaaDoor
