/- tree: the law TreeParts. -/
import Derived.Test.YtebopfpgicamiaaDoorWP
namespace Go.Proofs.YtebopfpgicamiaaDoor
set_option linter.unusedSimpArgs false
set_option linter.unusedVariables false
open Go Go.Fw
theorem mayP_app (a b : List DeclV) : mayP (a ++ b) = ((mayP a && mayP b) && decide (((a ++ b).length : Int) ≤ 256)) := by
  rw [Bool.eq_iff_iff]
  simp only [mayP, Bool.and_eq_true, decide_eq_true_eq, List.all_append, depP_app, List.length_append]
  constructor
  · rintro ⟨h1, ⟨h2, h3⟩, h4⟩
    exact ⟨⟨⟨by omega, h2, by omega⟩, by omega, h3, by omega⟩, by omega⟩
  · rintro ⟨⟨⟨h1, h2, h3⟩, h4, h5, h6⟩, h7⟩
    exact ⟨by omega, ⟨h2, h5⟩, by omega⟩
theorem mayP_one {a : List DeclV} {d : DeclV} (h : mayP a = true) (hd : d ∈ a) : mayP [d] = true ∧ maySs d.body = true ∧ depSs d.body ≤ 60 := by
  simp only [mayP, Bool.and_eq_true, decide_eq_true_eq] at h
  obtain ⟨_, h2, h3⟩ := h
  have hdp : ∀ {l : List DeclV}, d ∈ l → depSs d.body ≤ depP l := fun {l} => by
    induction l with
    | nil => intro h; simp at h
    | cons x l ih =>
      intro h
      rw [depP]
      rcases List.mem_cons.1 h with rfl | h
      · omega
      · have := ih h; omega
  have hD := List.all_eq_true.1 h2 d hd
  have := hdp hd
  refine ⟨by simp [mayP, hD, depP]; omega, ?_, by omega⟩
  simp only [declB, Bool.and_eq_true] at hD
  exact hD.2.2.2.1
theorem bsl_decl (l : List DeclV) : ∃ k, bsl (.sl .exact 6 []) 6 (declCells l) = .sl k 6 (declCells l) := by
  cases l with
  | nil => exact ⟨.exact, rfl⟩
  | cons x l => exact ⟨.any, rfl⟩
theorem tpa_rest {A : Nat → AV} {H : AHeap} {N : Nat} {fs : List Fr} {Q : Post} {ka kb kc : SK} {a b : List DeclV} {v : AV}
    (oa : ∀ d ∈ a, d.Ok) (ob : ∀ d ∈ b, d.Ok) (za : declSz a ≤ 10000000) (zb : declSz b ≤ 10000000)
    (h0 : A 0 = .sl ka 6 (declCells a)) (h1 : A 1 = .sl kb 6 (declCells b)) (h5 : A 5 = v) (hc : v.cells = some [v]) (hv : View H v (.sl kc 6 (declCells (a ++ b)))) {n : Int} (hn : ((a ++ b).length : Int) = n) (hl : alen 1 v = some n)
    (hk : ∀ A' H' N', A' 56 = bl false → A' 0 = A 0 → onward Tryd.prog fs Q .normal ⟨A', H', N'⟩) : run Tryd.prog (.ops (o_tpa0 ++ (o_tpa1 ++ o_tpa2))) fs Q ⟨A, H, N⟩ := by
  obtain ⟨o1, q1⟩ : ∃ c, o_tpa1 = c := ⟨_, rfl⟩
  obtain ⟨o2, q2⟩ : ∃ c, o_tpa2 = c := ⟨_, rfl⟩
  have oc : ∀ d ∈ a ++ b, d.Ok := fun d hd => (List.mem_append.1 hd).elim (oa d) (ob d)
  have zc : declSz (a ++ b) ≤ 100000000 := by rw [declSz_app]; omega
  have tc := p_Depth kc (a ++ b) zc
  rw [depP_app] at tc
  have sc := p_Size kc (a ++ b) zc
  rw [cntP_app] at sc
  have mc := p_May (k := kc) oc zc
  rw [mayP_app, hn] at mc
  have cl := cntP_le a
  have cl2 := cntP_le b
  have hw : IntKind.i64.wrap ((cntP a : Int) + cntP b) = ((cntP a + cntP b : Nat) : Int) := by rw [wrap_i64 (by omega) (by omega)]; omega
  have hmx : (if depP a < depP b then ((depP b : Nat) : Int) else (depP a : Nat)) = ((max (depP a) (depP b) : Nat) : Int) := by split <;> omega
  rw [q1, q2]
  simp [run_append, o_tpa0, h0, h1, h5, hc]
  refine tc.seen rfl (one_arg hv) ?_
  simp [h0, h1, h5, hc]
  refine PCall.acall (p_Depth ka a (by omega)) ?_
  simp [h0, h1, h5, hc]
  refine PCall.acall (p_Depth kb b (by omega)) ?_
  simp [run_append, hmx]
  subst q1
  simp [o_tpa1, h0, h1, h5, hc]
  refine sc.seen rfl (one_arg hv) ?_
  simp [h0, h1, h5, hc]
  refine PCall.acall (p_Size ka a (by omega)) ?_
  simp [h0, h1, h5, hc]
  refine PCall.acall (p_Size kb b (by omega)) ?_
  simp [run_append, hw]
  subst q2
  simp [o_tpa2, h0, h1, h5, hc]
  refine mc.seen rfl (one_arg hv) ?_
  simp [h0, h1, h5, hc]
  refine PCall.acall (p_May (k := ka) oa (by omega)) ?_
  cases ha : mayP a with
  | false =>
    simp [h0, h1, h5, hc]
    exact hk _ _ _ (by simp) (by simp [h0])
  | true =>
    simp [h0, h1, h5, hc]
    refine PCall.acall (p_May (k := kb) ob (by omega)) ?_
    cases hb : mayP b with
    | false =>
      simp [h0, h1, h5, hc]
      exact hk _ _ _ (by simp) (by simp [h0])
    | true =>
      by_cases c : n ≤ 256
      · simp [h0, h1, h5, hc, hl, c, -alen]
        refine hk _ _ _ ?_ ?_ <;> simp [h0, ha, hb, c]
      · simp [h0, h1, h5, hc, hl, c, -alen]
        refine hk _ _ _ ?_ ?_ <;> simp [h0, ha, hb, c]
theorem p_TreeParts {ka kb : SK} {a b : List DeclV} (oa : ∀ d ∈ a, d.Ok) (ob : ∀ d ∈ b, d.Ok) (za : declSz a ≤ 10000000) (zb : declSz b ≤ 10000000) (H : AHeap) (N : Nat) :
    ACall Tryd.prog 5 [.sl ka 6 (declCells a), .sl kb 6 (declCells b)] H N (fun r _ _ => r = bl true) := by
  obtain ⟨oo, qq⟩ : ∃ c, (.ops (o_tpa0 ++ (o_tpa1 ++ o_tpa2)) : ACode) = c := ⟨_, rfl⟩
  obtain ⟨cb1, eb1⟩ : ∃ c, (.loop a_bobbinlaw02_TreePartsb1 : ACode) = c := ⟨_, rfl⟩
  refine acallF mixed c_bobbinlaw02_TreeParts (by simp) fun hF => ?_
  unfold a_bobbinlaw02_TreeParts
  rw [qq, eb1]
  have hla := declSz_len a
  have hlb := declSz_len b
  simp
  refine (p_long (k := ka) (by omega) H N).monoF ?_
  rintro r1 H1 N1 ⟨⟨b1, rfl⟩, rfl, rfl⟩ hF1 _
  cases b1 with
  | true =>
    simp
    refine (p_awake _ _).mono ?_
    rintro r2 H2 N2 ⟨rfl, _⟩
    simp
  | false =>
    simp
    refine (p_long (k := kb) (by omega) H1 N1).monoF ?_
    rintro r1 H1 N1 ⟨⟨b1, rfl⟩, rfl, rfl⟩ hF1 _
    cases b1 with
    | true =>
      simp
      refine (p_awake _ _).mono ?_
      rintro r2 H2 N2 ⟨rfl, _⟩
      simp
    | false =>
      simp
      refine (p_awake H1 N1).monoF ?_
      rintro r2 H2 N2 ⟨rfl, _⟩ hF2 _
      have sa : asrc H2 6 (.sl ka 6 (declCells a)) = some ((declCells a).flatten, (declCells a).length) := by simp [asrc]
      obtain ⟨v1, H3, N3, hp1, hB1, _, hN3, hF3⟩ := (Built.empty (H := H2) (lo := 0) (sz := 6) (k := 6)).append (bytes := 88) hF2 (by omega) sa (declCells_sz a) (by simp only [declCells_len, List.length_nil, lim]; omega) (by simp only [declCells_len, List.length_nil]; omega)
      have sb : asrc H3 6 (.sl kb 6 (declCells b)) = some ((declCells b).flatten, (declCells b).length) := by simp [asrc]
      obtain ⟨v2, H4, N4, hp2, hB2, _, hN4, hF4⟩ := hB1.append (bytes := 88) hF3 (by omega) sb (declCells_sz b) (by simp only [declCells_len, List.nil_append, lim]; omega) (by simp only [declCells_len, List.nil_append]; omega)
      have c1 := hB1.rd.cells
      have c2 := hB2.rd.cells
      have l2 := hB2.rd.len
      rw [List.nil_append, ← declCells_app] at hB2 l2
      rw [declCells_len] at l2
      have hv2 := hB2.view (declCells_free _)
      obtain ⟨kc, hkc⟩ := bsl_decl (a ++ b)
      rw [hkc] at hv2
      simp [hp1, hp2, c1, c2, -asrc]
      rw [← qq]
      refine tpa_rest (ka := ka) (kb := kb) oa ob za zb (by simp) (by simp) (by simp) c2 hv2 rfl l2 fun A' H' N' g56 g0 => ?_
      simp at g0
      simp [g56, g0]
      refine PCall.acall (p_May (k := ka) oa (by omega)) ?_
      cases hm : mayP a with
      | false => simp
      | true =>
        simp [g0]
        rw [← eb1]
        refine run_loop (fun m s => ∃ j : Nat, j ≤ a.length ∧ m = a.length - j ∧ s.A 0 = .sl ka 6 (declCells a) ∧ s.A 6 = i64 j) a.length ?_ ?_
        · exact ⟨0, by omega, by omega, by simp [g0], by simp⟩
        · rintro m A1 H1 N1 ⟨j, hj, rfl, e0, e6⟩
          simp only at e0 e6
          by_cases hjl : j < a.length
          · have n1 : (j : Int) < a.length := by omega
            obtain ⟨d, hd⟩ : ∃ d, a[j]? = some d := ⟨a[j], List.getElem?_eq_getElem hjl⟩
            have hdm := List.mem_of_getElem? hd
            have hds := declSz_mem hdm
            have hdz : d.sz = 1 + d.name.size + strSz d.params + stmtSz d.body := rfl
            obtain ⟨m1, m2, m3⟩ := mayP_one hm hdm
            have hq : aindex 6 (.sl ka 6 (declCells a)) (i64 (j : Nat)) = some (.ip d.cells 0) := aindex_sl (by omega) (by simpa using declCells_at hd)
            have hce : d.cells = [u8 d.kind, str d.name, i64 d.n, .sl d.kp 1 (strCells d.params), .sl d.kb 8 (stmtCells d.body), i64 d.pos] := rfl
            have hw : IntKind.i64.wrap ((j : Int) + 1) = ((j + 1 : Nat) : Int) := by rw [wrap_i64 (by omega) (by omega)]; rfl
            have hcut : ((declCells a).drop j).take 1 = declCells [d] := by
              have h1 : (declCells a)[j]? = some d.cells := declCells_at hd
              rw [List.drop_eq_getElem_cons (by rw [declCells_len]; omega)]
              simp [declCells, (List.getElem?_eq_some_iff.1 hd).2]
            have hs1 : aslice 6 (.sl ka 6 (declCells a)) (some (i64 (j : Nat))) (some (i64 ((j : Int) + 1))) none = some (.sl (askind ka false) 6 (declCells [d])) := by
              have e : ((j : Int) + 1).toNat - ((j : Nat) : Int).toNat = 1 := by omega
              have h1 : 0 ≤ ((j : Nat) : Int) ∧ ((j : Nat) : Int) ≤ (j : Int) + 1 ∧ (j : Int) + 1 ≤ ((declCells a).length : Int) := by rw [declCells_len]; omega
              simp only [aslice, bnd, i64]
              rw [if_pos ⟨.inl trivial, h1.1, h1.2.1, h1.2.2⟩, e, Int.toNat_natCast, hcut]
            have hM := p_May (k := askind ka false) (l := [d]) (by simpa using oa d hdm) (by simp [declSz]; omega)
            rw [m1] at hM
            have okb := (stmtsOk_iff _).1 (oa d hdm).body
            rw [hce] at hq
            simp [a_bobbinlaw02_TreePartsb1, e0, e6, declCells_len, n1, hw, hs1]
            refine hM.acall ?_
            simp [e0, e6, hq]
            refine (p_within _ d.body rfl okb m2 m3 (by omega) d.kb).acall ?_
            simp [e0, e6, hw]
            exact ⟨a.length - (j + 1), by omega, j + 1, by omega, rfl, rfl⟩
          · have n1 : ¬ (j : Int) < a.length := by omega
            simp [a_bobbinlaw02_TreePartsb1, e0, e6, declCells_len, n1]
end Go.Proofs.YtebopfpgicamiaaDoor
