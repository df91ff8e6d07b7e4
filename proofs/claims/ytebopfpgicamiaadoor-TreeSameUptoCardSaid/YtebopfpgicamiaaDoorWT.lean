/- tree: the law TreeSame. -/
import Derived.Test.YtebopfpgicamiaaDoorWS
namespace Go.Proofs.YtebopfpgicamiaaDoor
set_option linter.unusedSimpArgs false
set_option linter.unusedVariables false
open Go Go.Fw
theorem two_args {H : AHeap} {a b c : AV} (h : View H b c) : ∀ (i : Nat) (x y : AV), [a, b][i]? = some x → [a, c][i]? = some y → x = y ∨ View H x y := fun i x y hx hy => by
  match i, hx, hy with
  | 0, hx, hy => cases hx; cases hy; exact .inl rfl
  | 1, hx, hy => cases hx; cases hy; exact .inr h
  | i + 2, hx, hy => cases hx
theorem two_args' {H : AHeap} {a b c : AV} (h : View H b c) : ∀ (i : Nat) (x y : AV), [b, a][i]? = some x → [c, a][i]? = some y → x = y ∨ View H x y := fun i x y hx hy => by
  match i, hx, hy with
  | 0, hx, hy => cases hx; cases hy; exact .inr h
  | 1, hx, hy => cases hx; cases hy; exact .inl rfl
  | i + 2, hx, hy => cases hx
/-- A program that stands elsewhere, as it reads. -/
def moved (p : Int) (a : List DeclV) : AV := bsl (.sl .nil 0 []) 6 (declCells (a.map (plD p)))
theorem moved_norm (p : Int) (a : List DeclV) : (moved p a).norm = (AV.sl (plK a) 6 (declCells (a.map (plD p)))).norm := by
  cases a with
  | nil => rfl
  | cons x l => rfl
theorem nrm1 {P : Program} {f : FuncId} {x y r : AV} (h : PCall P f [y] r) (hn : x.norm = y.norm) : PCall P f [x] r := PCall.nrm h (by simp only [normL, hn])
theorem nrm2 {P : Program} {f : FuncId} {x y z r : AV} (h : PCall P f [z, y] r) (hn : x.norm = y.norm) : PCall P f [z, x] r := PCall.nrm h (by simp only [normL, hn])
theorem nrm2' {P : Program} {f : FuncId} {x y z r : AV} (h : PCall P f [y, z] r) (hn : x.norm = y.norm) : PCall P f [x, z] r := PCall.nrm h (by simp only [normL, hn])

section
variable {A : Nat → AV} {H : AHeap} {N : Nat} {fs : List Fr} {Q : Post} {ka kb : SK} {a b : List DeclV} {v c : AV}
theorem tsa_rest {s : Bool} (h0 : A 0 = .sl ka 6 (declCells a)) (h1 : A 1 = .sl kb 6 (declCells b)) (h7 : A 7 = v) (hc : v.cells = some [v]) (hv : View H v c)
    (t1 : PCall Tryd.prog 17 [.sl ka 6 (declCells a), .sl ka 6 (declCells a)] (bl true)) (t2 : PCall Tryd.prog 17 [.sl ka 6 (declCells a), c] (bl true))
    (t3 : PCall Tryd.prog 17 [c, .sl ka 6 (declCells a)] (bl true)) (t4 : PCall Tryd.prog 17 [.sl ka 6 (declCells a), .sl kb 6 (declCells b)] (bl s))
    (t5 : PCall Tryd.prog 17 [.sl kb 6 (declCells b), .sl ka 6 (declCells a)] (bl s)) (t6 : PCall Tryd.prog 17 [c, .sl kb 6 (declCells b)] (bl s))
    (hk : ∀ A', (∀ t ∈ [0, 1, 7], A' t = A t) → A' 78 = bl false → onward Tryd.prog fs Q .normal ⟨A', H, N⟩) : run Tryd.prog (.ops (o_tsa0 ++ (o_tsa1 ++ (o_tsa2 ++ o_tsa3)))) fs Q ⟨A, H, N⟩ := by
  obtain ⟨o1, q1⟩ : ∃ c, o_tsa1 = c := ⟨_, rfl⟩
  obtain ⟨o2, q2⟩ : ∃ c, o_tsa2 = c := ⟨_, rfl⟩
  obtain ⟨o3, q3⟩ : ∃ c, o_tsa3 = c := ⟨_, rfl⟩
  rw [q1, q2, q3]
  simp [run_append, o_tsa0, h0, h1, h7, hc]
  refine PCall.acall t1 ?_
  simp [h0, h1, h7, hc]
  refine t2.seen rfl (two_args hv) ?_
  simp [run_append]
  subst q1
  simp [o_tsa1, h0, h1, h7, hc]
  refine t3.seen rfl (two_args' hv) ?_
  simp [run_append]
  subst q2
  simp [o_tsa2, h0, h1, h7, hc]
  refine PCall.acall t4 ?_
  simp [h0, h1, h7, hc]
  refine PCall.acall t5 ?_
  simp [run_append]
  subst q3
  simp [o_tsa3, h0, h1, h7, hc]
  refine PCall.acall t4 ?_
  simp [h0, h1, h7, hc]
  refine t6.seen rfl (two_args' hv) ?_
  simp
  exact hk _ (by simp) (by simp)
theorem tsb_rest {s m : Bool} {d n : Int} (h0 : A 0 = .sl ka 6 (declCells a)) (h1 : A 1 = .sl kb 6 (declCells b))
    (t4 : PCall Tryd.prog 17 [.sl ka 6 (declCells a), .sl kb 6 (declCells b)] (bl s))
    (ha : PCall Tryd.prog 11 [.sl ka 6 (declCells a)] (bl m) ∧ PCall Tryd.prog 13 [.sl ka 6 (declCells a)] (i64 d) ∧ PCall Tryd.prog 15 [.sl ka 6 (declCells a)] (i64 n))
    (hb : s = true → PCall Tryd.prog 11 [.sl kb 6 (declCells b)] (bl m) ∧ PCall Tryd.prog 13 [.sl kb 6 (declCells b)] (i64 d) ∧ PCall Tryd.prog 15 [.sl kb 6 (declCells b)] (i64 n))
    (hk : ∀ A', (∀ t ∈ [0, 1, 7], A' t = A t) → A' 102 = bl false → onward Tryd.prog fs Q .normal ⟨A', H, N⟩) : run Tryd.prog (.ops (o_tsb0 ++ (o_tsb1 ++ o_tsb2))) fs Q ⟨A, H, N⟩ := by
  obtain ⟨o1, q1⟩ : ∃ c, o_tsb1 = c := ⟨_, rfl⟩
  obtain ⟨o2, q2⟩ : ∃ c, o_tsb2 = c := ⟨_, rfl⟩
  rw [q1, q2]
  simp [run_append, o_tsb0, h0, h1]
  refine PCall.acall t4 ?_
  cases s with
  | false =>
    simp [run_append]
    subst q1
    simp [o_tsb1, run_append]
    subst q2
    simp [o_tsb2]
    exact hk _ (by simp) (by simp)
  | true =>
    obtain ⟨b1, b2, b3⟩ := hb rfl
    simp [h0, h1]
    refine PCall.acall ha.1 ?_
    simp [h0, h1]
    refine PCall.acall b1 ?_
    simp [run_append]
    subst q1
    simp [o_tsb1, h0, h1]
    refine PCall.acall ha.2.1 ?_
    simp [h0, h1]
    refine PCall.acall b2 ?_
    simp [run_append]
    subst q2
    simp [o_tsb2, h0, h1]
    refine PCall.acall ha.2.2 ?_
    simp [h0, h1]
    refine PCall.acall b3 ?_
    simp
    exact hk _ (by simp) (by simp)
theorem tsc_rest {m : Bool} {d n : Int} (h0 : A 0 = .sl ka 6 (declCells a)) (h7 : A 7 = v) (hc : v.cells = some [v]) (hv : View H v c)
    (ha : PCall Tryd.prog 11 [.sl ka 6 (declCells a)] (bl m) ∧ PCall Tryd.prog 13 [.sl ka 6 (declCells a)] (i64 d) ∧ PCall Tryd.prog 15 [.sl ka 6 (declCells a)] (i64 n))
    (hb : PCall Tryd.prog 11 [c] (bl m) ∧ PCall Tryd.prog 13 [c] (i64 d) ∧ PCall Tryd.prog 15 [c] (i64 n))
    (hk : ∀ A', A' 6 = bl true → onward Tryd.prog fs Q .normal ⟨A', H, N⟩) : run Tryd.prog (.ops (o_tsc0 ++ (o_tsc1 ++ o_tsc2))) fs Q ⟨A, H, N⟩ := by
  obtain ⟨o1, q1⟩ : ∃ c, o_tsc1 = c := ⟨_, rfl⟩
  obtain ⟨o2, q2⟩ : ∃ c, o_tsc2 = c := ⟨_, rfl⟩
  rw [q1, q2]
  simp [run_append, o_tsc0, h0, h7, hc]
  refine PCall.acall ha.1 ?_
  simp [h0, h7, hc]
  refine hb.1.seen rfl (one_arg hv) ?_
  simp [run_append]
  subst q1
  simp [o_tsc1, h0, h7, hc]
  refine PCall.acall ha.2.1 ?_
  simp [h0, h7, hc]
  refine hb.2.1.seen rfl (one_arg hv) ?_
  simp [run_append]
  subst q2
  simp [o_tsc2, h0, h7, hc]
  refine PCall.acall ha.2.2 ?_
  simp [h0, h7, hc]
  refine hb.2.2.seen rfl (one_arg hv) ?_
  simp
  exact hk _ (by simp)
end
theorem plDs_take {p : Int} {l : List DeclV} {i : Nat} {x : DeclV} (h : l[i]? = some x) : declCells ((l.take (i + 1)).map (plD p)) = declCells ((l.take i).map (plD p)) ++ [(plD p x).cells] := by
  have hlt := (List.getElem?_eq_some_iff.1 h).1
  rw [take_next hlt, (List.getElem?_eq_some_iff.1 h).2]
  simp [declCells]
theorem ts_body {A : Nat → AV} {H : AHeap} {N o j : Nat} {fs : List Fr} {Q : Post} {ka : SK} {a : List DeclV} {d : DeclV} {p : Int} (hd : a[j]? = some d) (hsz : d.sz ≤ 10000000) (hal : a.length ≤ 1000000000)
    (h0 : A 0 = .sl ka 6 (declCells a)) (h2 : A 2 = i64 p) (h8 : A 8 = i64 j) (h9 : A 9 = .mp o 0) (ho : H o = some (.blk [u8 d.kind, str d.name, i64 d.n, .sl d.kp 1 (strCells d.params), .sl d.kb 8 (stmtCells d.body), i64 p]))
    (hk : ∀ A', (∀ t ∈ [0, 1, 2, 7, 8, 9], A' t = A t) → onward Tryd.prog fs Q .normal ⟨A', H.set o (.blk (plD p d).cells), N⟩) : run Tryd.prog a_ts_body fs Q ⟨A, H, N⟩ := by
  have hjl := (List.getElem?_eq_some_iff.1 hd).1
  have hdz : d.sz = 1 + d.name.size + strSz d.params + stmtSz d.body := rfl
  have hq : aindex 6 (.sl ka 6 (declCells a)) (i64 (j : Nat)) = some (.ip d.cells 0) := aindex_sl (by omega) (by simpa using declCells_at hd)
  have hce : d.cells = [u8 d.kind, str d.name, i64 d.n, .sl d.kp 1 (strCells d.params), .sl d.kb 8 (stmtCells d.body), i64 d.pos] := rfl
  rw [hce] at hq
  simp [a_ts_body, h0, h2, h8, hq]
  refine PCall.acall (p_place p _ d.body rfl (by omega) d.kb) ?_
  simp [h9, ho]
  exact hk _ (by simp)
theorem p_TreeSame {ka kb : SK} {a b : List DeclV} {p : Int} (oa : ∀ d ∈ a, d.Ok) (ob : ∀ d ∈ b, d.Ok) (za : declSz a ≤ 10000000) (zb : declSz b ≤ 10000000) (hp : -9223372036854775808 ≤ p ∧ p < 9223372036854775808) (H : AHeap) (N : Nat) :
    ACall Tryd.prog 6 [.sl ka 6 (declCells a), .sl kb 6 (declCells b), i64 p] H N (fun r _ _ => r = bl true) := by
  obtain ⟨oA, qA⟩ : ∃ c, (.ops (o_tsa0 ++ (o_tsa1 ++ (o_tsa2 ++ o_tsa3))) : ACode) = c := ⟨_, rfl⟩
  obtain ⟨oB, qB⟩ : ∃ c, (.ops (o_tsb0 ++ (o_tsb1 ++ o_tsb2)) : ACode) = c := ⟨_, rfl⟩
  obtain ⟨oC, qC⟩ : ∃ c, (.ops (o_tsc0 ++ (o_tsc1 ++ o_tsc2)) : ACode) = c := ⟨_, rfl⟩
  obtain ⟨cb1, eb1⟩ : ∃ c, (.loop a_bobbinlaw02_TreeSameb1 : ACode) = c := ⟨_, rfl⟩
  have hla := declSz_len a
  have bc := plDs_bare p a
  obtain ⟨m1, m2, m3, m4⟩ := same_P bc
  have okc : ∀ d ∈ a.map (plD p), d.Ok := fun d hd => by
    obtain ⟨y, hy, rfl⟩ := List.mem_map.1 hd
    exact plD_ok hp.1 hp.2 (oa y hy)
  have zc : declSz (a.map (plD p)) ≤ 100000000 := by omega
  have za' : declSz a ≤ 100000000 := by omega
  have zb' : declSz b ≤ 100000000 := by omega
  have hmv := moved_norm p a
  have t1 := p_Same (ka := ka) (kb := ka) (a := a) (b := a) za'
  rw [(sameP_iff a a).2 rfl] at t1
  have t2 := p_Same (ka := ka) (kb := plK a) (a := a) (b := a.map (plD p)) za'
  rw [(sameP_iff _ _).2 bc.symm] at t2
  have t3 := p_Same (ka := plK a) (kb := ka) (a := a.map (plD p)) (b := a) zc
  rw [(sameP_iff _ _).2 bc] at t3
  have t4 := p_Same (ka := ka) (kb := kb) (a := a) (b := b) za'
  have t5 := p_Same (ka := kb) (kb := ka) (a := b) (b := a) zb'
  have t6 := p_Same (ka := plK a) (kb := kb) (a := a.map (plD p)) (b := b) zc
  have s5 : sameP b a = sameP a b := by rw [Bool.eq_iff_iff, sameP_iff, sameP_iff]; exact ⟨Eq.symm, Eq.symm⟩
  have s6 : sameP (a.map (plD p)) b = sameP a b := by rw [Bool.eq_iff_iff, sameP_iff, sameP_iff, bc]
  rw [s5] at t5
  rw [s6] at t6
  have u2 := nrm2 t2 hmv
  have u3 := nrm2' t3 hmv
  have u6 := nrm2' t6 hmv
  have ha := And.intro (p_May (k := ka) oa za') (And.intro (p_Depth ka a za') (p_Size ka a za'))
  have hc := And.intro (nrm1 (p_May (k := plK a) okc zc) hmv) (And.intro (nrm1 (p_Depth (plK a) _ zc) hmv) (nrm1 (p_Size (plK a) _ zc) hmv))
  rw [m1, m2, m3] at hc
  have hb : sameP a b = true → PCall Tryd.prog 11 [.sl kb 6 (declCells b)] (bl (mayP a)) ∧ PCall Tryd.prog 13 [.sl kb 6 (declCells b)] (i64 (depP a)) ∧ PCall Tryd.prog 15 [.sl kb 6 (declCells b)] (i64 (cntP a)) := fun h => by
    obtain ⟨e1, e2, e3, _⟩ := same_P ((sameP_iff a b).1 h)
    rw [e1, e2, e3]
    exact ⟨p_May (k := kb) ob zb', p_Depth kb b zb', p_Size kb b zb'⟩
  refine acallF mixed c_bobbinlaw02_TreeSame (by simp) fun hF => ?_
  unfold a_bobbinlaw02_TreeSame
  rw [qA, qB, qC, eb1]
  simp
  refine (p_long (k := ka) (by omega) H N).monoF ?_
  rintro r1 H1 N1 ⟨⟨b1, rfl⟩, rfl, rfl⟩ hF1 _
  cases b1 with
  | true =>
    simp
    refine (p_awake _ _).mono ?_
    rintro r2 H2 N2 ⟨rfl, _⟩
    simp
  | false =>
    simp
    refine (p_long (k := kb) (by omega) H1 N1).monoF ?_
    rintro r1 H1 N1 ⟨⟨b1, rfl⟩, rfl, rfl⟩ hF1 _
    cases b1 with
    | true =>
      simp
      refine (p_awake _ _).mono ?_
      rintro r2 H2 N2 ⟨rfl, _⟩
      simp
    | false =>
      simp
      refine (p_awake H1 N1).monoF ?_
      rintro r2 H2 N2 ⟨rfl, _⟩ hF2 _
      simp
      rw [← eb1]
      refine run_loop (fun m s => ∃ (j : Nat) (v : AV), j ≤ a.length ∧ m = a.length - j ∧ s.A 0 = .sl ka 6 (declCells a) ∧ s.A 1 = .sl kb 6 (declCells b) ∧ s.A 2 = i64 p ∧ s.A 7 = v ∧ s.A 8 = i64 j ∧ Built s.H 0 6 (.sl .nil 0 []) (declCells ((a.take j).map (plD p))) v ∧ Fresh s.H s.N) a.length ?_ ?_
      · exact ⟨0, .sl .nil 0 [], by omega, by omega, by simp, by simp, by simp, by simp, by simp, Built.nil, hF2⟩
      · rintro m A1 H1 N1 ⟨j, v, hj, rfl, e0, e1, e2, e7, e8, hB, hF1⟩
        simp only at e0 e1 e2 e7 e8 hB hF1
        have hcv := hB.rd.cells
        by_cases hjl : j < a.length
        · have n1 : (j : Int) < a.length := by omega
          obtain ⟨d, hd⟩ : ∃ d, a[j]? = some d := ⟨a[j], List.getElem?_eq_getElem hjl⟩
          have hdm := List.mem_of_getElem? hd
          have hds := declSz_mem hdm
          have hdz : d.sz = 1 + d.name.size + strSz d.params + stmtSz d.body := rfl
          have hq : aindex 6 (.sl ka 6 (declCells a)) (i64 (j : Nat)) = some (.ip d.cells 0) := aindex_sl (by omega) (by simpa using declCells_at hd)
          have hce : d.cells = [u8 d.kind, str d.name, i64 d.n, .sl d.kp 1 (strCells d.params), .sl d.kb 8 (stmtCells d.body), i64 d.pos] := rfl
          have hw : IntKind.i64.wrap ((j : Int) + 1) = ((j + 1 : Nat) : Int) := by rw [wrap_i64 (by omega) (by omega)]; rfl
          rw [hce] at hq
          have htk := plDs_take (p := p) hd
          obtain ⟨H5, h5⟩ : ∃ H5, H1.set N1 (.blk (plD p d).cells) = H5 := ⟨_, rfl⟩
          have hB5 : Built H5 0 6 (.sl .nil 0 []) (declCells ((a.take j).map (plD p))) v := built_le hB fun id ob hid => by
            have := hF1.lt hid
            rw [← h5]; simp only [AHeap.set]; rw [if_neg (by omega), hid]
          have hF5 : Fresh H5 (N1 + 1) := h5 ▸ hF1.set _
          obtain ⟨v', H', N', happ, hB', hold', hNle, hF'⟩ := hB5.push (bytes := 88) (k := .exact) (x := (plD p d).cells) hF5 (by omega) rfl (by rw [declCells_len, List.length_map, List.length_take]; simp only [lim]; omega) (by rw [declCells_len, List.length_map, List.length_take]; omega)
          rw [← htk] at hB'
          rw [← h5] at happ
          have hpc : (plD p d).cells.length = 6 := rfl
          obtain ⟨ctb, etb⟩ : ∃ c, a_ts_body = c := ⟨_, rfl⟩
          unfold a_bobbinlaw02_TreeSameb1
          rw [etb]
          simp [e0, e2, e8, declCells_len, n1, hq, splice]
          rw [← etb]
          refine ts_body (ka := ka) (a := a) (d := d) (p := p) (j := j) (o := N1) hd (by omega) (by omega) (by simp [e0]) (by simp [e2]) (by simp [e8]) (by simp) (by simp [e2, AHeap.set]) fun A2 hA => ?_
          have c0 := (hA 0 (by simp)).trans (show _ = AV.sl ka 6 (declCells a) by simp [e0])
          have c1 := (hA 1 (by simp)).trans (show _ = AV.sl kb 6 (declCells b) by simp [e1])
          have c2 := (hA 2 (by simp)).trans (show _ = i64 p by simp [e2])
          have c7 := (hA 7 (by simp)).trans (show _ = v by simp [e7])
          have c8 := (hA 8 (by simp)).trans (show _ = i64 j by simp [e8])
          have c9 := (hA 9 (by simp)).trans (show _ = AV.mp N1 0 by simp)
          simp [c0, c1, c2, c7, c8, c9, hw, hpc, take_len hpc, splice_full, hcv, happ, -AV.cells, AV.cells_agg]
          exact ⟨a.length - (j + 1), by omega, j + 1, by omega, rfl, rfl, by rw [← List.map_take]; exact hB', hF'⟩
        · have n1 : ¬ (j : Int) < a.length := by omega
          have hje : j = a.length := by omega
          subst hje
          rw [List.take_length] at hB
          have hv := hB.view (declCells_free _)
          simp [a_bobbinlaw02_TreeSameb1, e0, e8, declCells_len]
          rw [← qA]
          refine tsa_rest (c := moved p a) (v := v) (by simp [e0]) (by simp [e1]) (by simp [e7]) hcv hv t1 u2 u3 t4 t5 u6 fun A2 g2 g78 => ?_
          have d0 := (g2 0 (by simp)).trans (show _ = AV.sl ka 6 (declCells a) by simp [e0])
          have d1 := (g2 1 (by simp)).trans (show _ = AV.sl kb 6 (declCells b) by simp [e1])
          have d7 := (g2 7 (by simp)).trans (show _ = v by simp [e7])
          simp [g78]
          rw [← qB]
          refine tsb_rest (ka := ka) (kb := kb) (a := a) (b := b) (by simp [d0]) (by simp [d1]) t4 ha hb fun A3 g3 g102 => ?_
          have f0 := (g3 0 (by simp)).trans d0
          have f7 := (g3 7 (by simp)).trans d7
          simp [g102]
          rw [← qC]
          refine tsc_rest (ka := ka) (a := a) (c := moved p a) (v := v) (by simp [f0]) (by simp [f7]) hcv hv ha hc fun A4 g6 => ?_
          simp [g6]
end Go.Proofs.YtebopfpgicamiaaDoor
