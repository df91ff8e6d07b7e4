/- tree: whether a program is more than a statement goes over; the examples. -/
import Derived.Test.YtebopfpgicamiaaDoorWK
import Derived.KernelRfl
import Derived.Test.YtebopfpgicamiaaDoorM6
namespace Go.Proofs.YtebopfpgicamiaaDoor
set_option linter.unusedSimpArgs false
set_option linter.unusedVariables false
open Go Go.Fw
theorem p_long {k : SK} {l : List DeclV} (hsz : declSz l ≤ 100000000) (H : AHeap) (N : Nat) : ACall Tryd.prog 8 [.sl k 6 (declCells l)] H N (fun r H' N' => (∃ b, r = bl b) ∧ H' = H ∧ N' = N) := by
  have hll := declSz_len l
  obtain ⟨c1', ec1⟩ : ∃ c, (.loop a_bobbinlaw02_longb1 : ACode) = c := ⟨_, rfl⟩
  refine acall mixed c_bobbinlaw02_long (by simp) ?_
  by_cases c1 : (300 : Int) < l.length
  · simp [a_bobbinlaw02_long, declCells_len, c1]
  · simp [a_bobbinlaw02_long, declCells_len, c1]
    refine run_loop (fun m s => ∃ (j : Nat) (n : Int), j ≤ l.length ∧ m = l.length - j ∧ s.A 0 = .sl k 6 (declCells l) ∧ s.A 3 = i64 n ∧ s.A 4 = i64 j ∧ 0 ≤ n ∧ n ≤ l.length + 1000 * j + 2001 * declSz (l.take j) ∧ s.H = H ∧ s.N = N) l.length ?_ ?_
    · exact ⟨0, l.length, by omega, by omega, by simp, by simp [declCells_len], by simp, by omega, by omega, rfl, rfl⟩
    · rintro m A1 H1 N1 ⟨j, n, hj, rfl, e0, e3, e4, hn0, hn1, rfl, rfl⟩
      simp only at e0 e3 e4
      unfold a_bobbinlaw02_longb2
      rw [ec1]
      have htk := take_declSz l j
      by_cases hjl : j < l.length
      · have n1 : (j : Int) < l.length := by omega
        by_cases h5 : n ≤ 800
        · obtain ⟨d, hx⟩ : ∃ d, l[j] = d := ⟨_, rfl⟩
          have hxm : d ∈ l := by rw [← hx]; exact List.getElem_mem hjl
          have hxs := declSz_mem hxm
          have hds : d.sz = 1 + d.name.size + strSz d.params + stmtSz d.body := rfl
          have hpl := strSz_len d.params
          have ht1 := declSz_take hjl
          rw [hx] at ht1
          have ht2 := take_declSz l (j + 1)
          have hq : aindex 6 (.sl k 6 (declCells l)) (i64 (j : Nat)) = some (.ip d.cells 0) := by rw [← hx]; exact aindex_sl (by omega) (by simpa using declCells_at (List.getElem?_eq_getElem hjl))
          have hce : d.cells = [u8 d.kind, str d.name, i64 d.n, .sl d.kp 1 (strCells d.params), .sl d.kb 8 (stmtCells d.body), i64 d.pos] := rfl
          rw [hce] at hq
          have hw : IntKind.i64.wrap ((j : Int) + 1) = ((j + 1 : Nat) : Int) := by rw [wrap_i64 (by omega) (by omega)]; rfl
          by_cases d1 : (100 : Int) < d.params.length
          · simp [e0, e3, e4, declCells_len, n1, h5, hq, strCells_len, d1]
          · by_cases d2 : (300 : Int) < d.name.size
            · simp [e0, e3, e4, declCells_len, n1, h5, hq, strCells_len, d1, d2]
            · simp [e0, e3, e4, declCells_len, n1, h5, hq, strCells_len, d1, d2]
              rw [← ec1]
              refine run_loop (fun m s => ∃ i : Nat, i ≤ d.params.length ∧ m = d.params.length - i ∧ s.A 0 = .sl k 6 (declCells l) ∧ s.A 3 = i64 n ∧ s.A 4 = i64 j ∧ s.A 5 = i64 i ∧ s.H = H1 ∧ s.N = N1) d.params.length ?_ ?_
              · exact ⟨0, by omega, by omega, by simp [e0], by simp [e3], by simp [e4], by simp, rfl, rfl⟩
              · rintro m A2 H2 N2 ⟨i, hi, rfl, f0, f3, f4, f5, rfl, rfl⟩
                simp only at f0 f3 f4 f5
                by_cases hil : i < d.params.length
                · have m1 : (i : Int) < d.params.length := by omega
                  obtain ⟨y, hy⟩ : ∃ y, d.params[i] = y := ⟨_, rfl⟩
                  have hr : aindex 1 (.sl d.kp 1 (strCells d.params)) (i64 (i : Nat)) = some (.ip [str y] 0) := by rw [← hy]; exact aindex_sl (by omega) (by simpa using strCells_get (List.getElem?_eq_getElem hil))
                  have hwi : IntKind.i64.wrap ((i : Int) + 1) = ((i + 1 : Nat) : Int) := by rw [wrap_i64 (by omega) (by omega)]; rfl
                  by_cases h6 : (300 : Int) < y.size
                  · simp [a_bobbinlaw02_longb1, f0, f3, f4, f5, hq, strCells_len, m1, hr, h6]
                  · simp [a_bobbinlaw02_longb1, f0, f3, f4, f5, hq, strCells_len, m1, hr, h6, hwi]
                    exact ⟨d.params.length - (i + 1), by omega, i + 1, by omega, rfl, rfl⟩
                · have m1 : ¬ (i : Int) < d.params.length := by omega
                  simp [a_bobbinlaw02_longb1, f0, f3, f4, f5, hq, strCells_len, m1]
                  refine (p_lstmts _ d.body rfl (by omega) d.kb H2 N2).mono ?_
                  rintro r H3 N3 ⟨⟨q, rfl, hq0, hq1⟩, rfl, rfl⟩
                  have hwn : IntKind.i64.wrap (n + q) = n + q := wrap_i64 (by omega) (by omega)
                  simp [f0, f4, hw, hwn]
                  exact ⟨l.length - (j + 1), by omega, j + 1, by omega, rfl, rfl, by omega, by omega⟩
        · simp [e0, e3, e4, declCells_len, n1, h5]; omega
      · have n1 : ¬ (j : Int) < l.length := by omega
        simp [e0, e3, e4, declCells_len, n1]; omega

/-- The examples. -/
def exG : DeclV := ⟨1, ⟨#[120]⟩, 0, .nil, [], .nil, [], 0⟩
def exOne : ExprV := .mk 1 noStr 1 .nil [] 0
def exTwo : ExprV := .mk 1 noStr 2 .nil [] 0
def exIdx : ExprV := .mk 4 ⟨#[97]⟩ 0 .exact [exTwo] 0
def exAdd : ExprV := .mk 7 noStr 0 .exact [exOne, exIdx] 0
def exS : StmtV := .mk 7 noStr noStr false .exact [exAdd] .nil [] .nil [] 0
def exT : DeclV := ⟨5, ⟨#[116]⟩, 0, .nil, [], .exact, [exS], 0⟩
theorem exG_ok : ∀ d ∈ [exG], d.Ok := by
  intro d hd
  rw [List.mem_singleton.1 hd]
  exact ⟨by decide, by decide, by decide, by decide, trivial⟩
theorem exT_ok : ∀ d ∈ [exT], d.Ok := by
  intro d hd
  rw [List.mem_singleton.1 hd]
  refine ⟨by decide, by decide, by decide, by decide, ?_⟩
  simp [exT, exS, exAdd, exIdx, exTwo, exOne, stmtsOk, StmtV.Ok, exprsOk, ExprV.Ok]
theorem awk_rest {A : Nat → AV} {H : AHeap} {N a b : Nat} {gc tc : List AV} {fs : List Fr} {Q : Post} (lg : gc.length = 6) (lt : tc.length = 6)
    (t1 : PCall Tryd.prog 11 [.sl .exact 6 [gc]] (bl true)) (t2 : PCall Tryd.prog 11 [.sl .exact 6 [tc]] (bl true)) (t3 : PCall Tryd.prog 13 [.sl .exact 6 [gc]] (i64 0)) (t4 : PCall Tryd.prog 13 [.sl .exact 6 [tc]] (i64 4))
    (t5 : PCall Tryd.prog 15 [.sl .exact 6 [gc]] (i64 1)) (t6 : PCall Tryd.prog 15 [.sl .exact 6 [tc]] (i64 6)) (t7 : PCall Tryd.prog 17 [.sl .exact 6 [gc], .sl .exact 6 [tc]] (bl false))
    (t8 : PCall Tryd.prog 23 [str ⟨#[120]⟩] (bl true)) (t9 : PCall Tryd.prog 23 [str ⟨#[105, 102]⟩] (bl false))
    (h1 : A 1 = .mp a 0) (h2 : A 2 = .mp b 0) (ha : H a = some (.blk gc)) (hb : H b = some (.blk tc))
    (hk : ∀ A', A' 0 = bl true → onward Tryd.prog fs Q .normal ⟨A', H, N⟩) : run Tryd.prog (.ops (o_awk0 ++ (o_awk1 ++ (o_awk2 ++ (o_awk3 ++ (o_awk4 ++ (o_awk5 ++ (o_awk6 ++ o_awk7)))))))) fs Q ⟨A, H, N⟩ := by
  obtain ⟨o1, q1⟩ : ∃ c, o_awk1 = c := ⟨_, rfl⟩
  obtain ⟨o2, q2⟩ : ∃ c, o_awk2 = c := ⟨_, rfl⟩
  obtain ⟨o3, q3⟩ : ∃ c, o_awk3 = c := ⟨_, rfl⟩
  obtain ⟨o4, q4⟩ : ∃ c, o_awk4 = c := ⟨_, rfl⟩
  obtain ⟨o5, q5⟩ : ∃ c, o_awk5 = c := ⟨_, rfl⟩
  obtain ⟨o6, q6⟩ : ∃ c, o_awk6 = c := ⟨_, rfl⟩
  obtain ⟨o7, q7⟩ : ∃ c, o_awk7 = c := ⟨_, rfl⟩
  have tg := take_len lg
  have tt := take_len lt
  rw [q1, q2, q3, q4, q5, q6, q7]
  simp [run_append, o_awk0, h1, ha, lg, tg, splice_full]
  refine PCall.acall t1 ?_
  simp [run_append]
  subst q1
  simp [o_awk1, h1, ha, lg, tg, splice_full]
  refine PCall.acall t3 ?_
  simp [run_append]
  subst q2
  simp [o_awk2, h1, ha, lg, tg, splice_full]
  refine PCall.acall t5 ?_
  simp [run_append]
  subst q3
  simp [o_awk3, h2, hb, lt, tt, splice_full]
  refine PCall.acall t2 ?_
  simp [run_append]
  subst q4
  simp [o_awk4, h2, hb, lt, tt, splice_full]
  refine PCall.acall t4 ?_
  simp [run_append]
  subst q5
  simp [o_awk5, h2, hb, lt, tt, splice_full]
  refine PCall.acall t6 ?_
  simp [run_append]
  subst q6
  simp [o_awk6, h1, h2, ha, hb, lg, lt, tg, tt, splice_full]
  refine PCall.acall t7 ?_
  simp [run_append]
  subst q7
  simp [o_awk7]
  refine PCall.acall t8 ?_
  simp
  refine PCall.acall t9 ?_
  simp
  exact hk _ (by simp)
theorem p_awake (H : AHeap) (N : Nat) : ACall Tryd.prog 10 [] H N (fun r H' N' => r = bl true ∧ N ≤ N' ∧ ∀ j, j < N → H' j = H j) := by
  have m1 : mayP [exG] = true := by kernel_rfl
  have m2 : mayP [exT] = true := by kernel_rfl
  have d1 : depP [exG] = 0 := by kernel_rfl
  have d2 : depP [exT] = 4 := by kernel_rfl
  have c1 : cntP [exG] = 1 := by kernel_rfl
  have c2 : cntP [exT] = 6 := by kernel_rfl
  have s1 : sameP [exG] [exT] = false := by
    have : ¬ sameP [exG] [exT] = true := by
      rw [sameP_iff]
      intro h
      simp [barePs, DeclV.bare, exG, exT] at h
    simpa using this
  have z1 : declSz [exG] ≤ 100000000 := by decide
  have z2 : declSz [exT] ≤ 100000000 := by decide
  have t1 := p_May (k := .exact) exG_ok z1
  have t2 := p_May (k := .exact) exT_ok z2
  have t3 := p_Depth .exact [exG] z1
  have t4 := p_Depth .exact [exT] z2
  have t5 := p_Size .exact [exG] z1
  have t6 := p_Size .exact [exT] z2
  have t7 := p_Same (ka := .exact) (kb := .exact) (a := [exG]) (b := [exT]) z1
  have t8 : PCall Tryd.prog 23 [str ⟨#[120]⟩] (bl (nameB ⟨#[120]⟩)) := p_Name _ (by decide)
  have t9 : PCall Tryd.prog 23 [str ⟨#[105, 102]⟩] (bl (nameB ⟨#[105, 102]⟩)) := p_Name _ (by decide)
  rw [show nameB ⟨#[120]⟩ = true by kernel_rfl] at t8
  rw [show nameB ⟨#[105, 102]⟩ = false by kernel_rfl] at t9
  rw [m1] at t1
  rw [m2] at t2
  rw [d1] at t3
  rw [d2] at t4
  rw [c1] at t5
  rw [c2] at t6
  rw [s1] at t7
  obtain ⟨oo, qq⟩ : ∃ c, (.ops (o_awk0 ++ (o_awk1 ++ (o_awk2 ++ (o_awk3 ++ (o_awk4 ++ (o_awk5 ++ (o_awk6 ++ o_awk7)))))))  : ACode) = c := ⟨_, rfl⟩
  obtain ⟨i1, p1⟩ : ∃ c, o_awi1 = c := ⟨_, rfl⟩
  refine acallF mixed c_bobbinlaw02_awake (by simp) fun hF => ?_
  unfold a_bobbinlaw02_awake
  rw [qq, p1]
  simp [run_append, splice, o_awi0]
  subst p1
  simp [o_awi1, splice]
  rw [← qq]
  refine awk_rest (a := N) (b := N + 1) rfl rfl (PCall.nrm t1 (by kernel_rfl)) (PCall.nrm t2 (by kernel_rfl)) (PCall.nrm t3 (by kernel_rfl)) (PCall.nrm t4 (by kernel_rfl)) (PCall.nrm t5 (by kernel_rfl)) (PCall.nrm t6 (by kernel_rfl)) (PCall.nrm t7 (by kernel_rfl)) t8 t9 (by simp) (by simp) (by simp [AHeap.set]; rfl) (by simp [AHeap.set]; rfl) fun A' h0 => ?_
  simp [h0]
  refine ⟨by omega, fun j hj => ?_⟩
  rw [if_neg (by omega), if_neg (by omega)]
end Go.Proofs.YtebopfpgicamiaaDoor
