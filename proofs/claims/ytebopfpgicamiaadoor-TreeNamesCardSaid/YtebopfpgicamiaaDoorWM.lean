/- tree: the law TreeAsks. -/
import Derived.Test.YtebopfpgicamiaaDoorWL
namespace Go.Proofs.YtebopfpgicamiaaDoor
set_option linter.unusedSimpArgs false
set_option linter.unusedVariables false
open Go Go.Fw
theorem tas_rest {A : Nat → AV} {H : AHeap} {N : Nat} {fs : List Fr} {Q : Post} {ka kb : SK} {a b : List DeclV} {e f : ExprV} {s : ByteArray} (oa : ∀ d ∈ a, d.Ok) (za : declSz a ≤ 100000000) (oe : e.Ok) (ze : e.sz ≤ 100000000) (zs : s.size ≤ 100000000)
    (h0 : A 0 = .sl ka 6 (declCells a)) (h1 : A 1 = .sl kb 6 (declCells b)) (h7 : A 7 = .ip e.cells 0) (h8 : A 8 = .ip f.cells 0) (h4 : A 4 = str s)
    (hk : ∀ A' H' N', A' 10 = bl true → onward Tryd.prog fs Q .normal ⟨A', H', N'⟩) : run Tryd.prog (.ops (o_tas0 ++ (o_tas1 ++ (o_tas2 ++ (o_tas3 ++ (o_tas4 ++ (o_tas5 ++ (o_tas6 ++ (o_tas7 ++ (o_tas8 ++ o_tas9)))))))))) fs Q ⟨A, H, N⟩ := by
  obtain ⟨o1, q1⟩ : ∃ c, o_tas1 = c := ⟨_, rfl⟩
  obtain ⟨o2, q2⟩ : ∃ c, o_tas2 = c := ⟨_, rfl⟩
  obtain ⟨o3, q3⟩ : ∃ c, o_tas3 = c := ⟨_, rfl⟩
  obtain ⟨o4, q4⟩ : ∃ c, o_tas4 = c := ⟨_, rfl⟩
  obtain ⟨o5, q5⟩ : ∃ c, o_tas5 = c := ⟨_, rfl⟩
  obtain ⟨o6, q6⟩ : ∃ c, o_tas6 = c := ⟨_, rfl⟩
  obtain ⟨o7, q7⟩ : ∃ c, o_tas7 = c := ⟨_, rfl⟩
  obtain ⟨o8, q8⟩ : ∃ c, o_tas8 = c := ⟨_, rfl⟩
  obtain ⟨o9, q9⟩ : ∃ c, o_tas9 = c := ⟨_, rfl⟩
  have le : ∀ X, aload X true 5 (.ip e.cells 0) = some (.agg e.cells) := fun X => by rw [e.cells_eq]; rfl
  have lf : ∀ X, aload X true 5 (.ip f.cells 0) = some (.agg f.cells) := fun X => by rw [f.cells_eq]; rfl
  have el : e.cells.length = 5 := by rw [e.cells_eq]; rfl
  have fl : f.cells.length = 5 := by rw [f.cells_eq]; rfl
  have te := take_len el
  have tf := take_len fl
  have sEE : sameE e e = true := (sameE_iff e e).2 rfl
  have sPP : sameP a a = true := (sameP_iff a a).2 rfl
  have sP1 := p_Same (ka := ka) (kb := kb) (a := a) (b := b) za
  have sP2 := p_rSame (ka := ka) (kb := kb) (la := a) (lb := b) za
  have sE1 := p_SameExpr e f ze
  have sE2 := p_rSameExpr e f ze
  obtain ⟨xP, hxP⟩ : ∃ x, sameP a b = x := ⟨_, rfl⟩
  obtain ⟨xE, hxE⟩ : ∃ x, sameE e f = x := ⟨_, rfl⟩
  rw [hxP] at sP1 sP2
  rw [hxE] at sE1 sE2
  rw [q1, q2, q3, q4, q5, q6, q7, q8, q9]
  simp [run_append, o_tas0, h0]
  refine PCall.acall (p_May (k := ka) oa za) ?_
  simp
  refine PCall.acall (p_rMay (k := ka) oa za) ?_
  simp [run_append]
  subst q1
  simp [o_tas1, h0]
  refine PCall.acall (p_Depth ka a za) ?_
  simp
  refine PCall.acall (p_rDepth ka a za) ?_
  simp [run_append]
  subst q2
  simp [o_tas2, h0]
  refine PCall.acall (p_Size ka a za) ?_
  simp
  refine PCall.acall (p_rSize ka a za) ?_
  simp [run_append]
  subst q3
  simp [o_tas3, h0, h1]
  refine PCall.acall sP1 ?_
  simp
  refine PCall.acall sP2 ?_
  simp [run_append]
  subst q4
  simp [o_tas4, h0]
  refine PCall.acall (p_Same (ka := ka) (kb := ka) (a := a) (b := a) za) ?_
  rw [sPP]
  simp [run_append]
  subst q5
  simp [o_tas5, h7, el, te]
  refine PCall.acall (p_MayExpr e oe ze) ?_
  simp
  refine PCall.acall (p_rMayExpr e oe ze) ?_
  simp [run_append]
  subst q6
  simp [o_tas6, h7, h8, el, te, fl, tf]
  refine PCall.acall sE1 ?_
  simp
  refine PCall.acall sE2 ?_
  simp [run_append]
  subst q7
  simp [o_tas7, h7, el, te]
  refine PCall.acall (p_SameExpr e e ze) ?_
  rw [sEE]
  simp [run_append]
  subst q8
  simp [o_tas8, h4]
  refine PCall.acall (p_Name s (by omega)) ?_
  simp
  refine PCall.acall (p_refName s) ?_
  simp [run_append]
  subst q9
  simp [o_tas9]
  refine (p_awake H N).mono ?_
  rintro r2 H2 N2 ⟨rfl, _⟩
  simp
  exact hk _ _ _ (by simp)
theorem p_TreeAsks {ka kb : SK} {a b : List DeclV} {e f : ExprV} {s : ByteArray} (oa : ∀ d ∈ a, d.Ok) (za : declSz a ≤ 100000000) (zb : declSz b ≤ 100000000) (oe : e.Ok) (ze : e.sz ≤ 100000000) (zf : f.sz ≤ 100000000) (zs : s.size ≤ 100000000) (H : AHeap) (N : Nat) :
    ACall Tryd.prog 3 [.sl ka 6 (declCells a), .sl kb 6 (declCells b), .agg e.cells, .agg f.cells, str s] H N (fun r _ _ => r = bl true) := by
  obtain ⟨oo, qq⟩ : ∃ c, (.ops (o_tas0 ++ (o_tas1 ++ (o_tas2 ++ (o_tas3 ++ (o_tas4 ++ (o_tas5 ++ (o_tas6 ++ (o_tas7 ++ (o_tas8 ++ o_tas9))))))))) : ACode) = c := ⟨_, rfl⟩
  have el : e.cells.length = 5 := by rw [e.cells_eq]; rfl
  have fl : f.cells.length = 5 := by rw [f.cells_eq]; rfl
  have te := take_len el
  have tf := take_len fl
  refine acall mixed c_bobbinlaw02_TreeAsks (by simp) ?_
  unfold a_bobbinlaw02_TreeAsks
  rw [qq]
  simp
  refine (p_long (k := ka) za H N).mono ?_
  rintro r1 H1 N1 ⟨⟨b1, rfl⟩, rfl, rfl⟩
  cases b1 with
  | true =>
    simp
    refine (p_awake _ _).mono ?_
    rintro r2 H2 N2 ⟨rfl, _⟩
    simp
  | false =>
    simp
    refine (p_long (k := kb) zb H1 N1).mono ?_
    rintro r1 H1 N1 ⟨⟨b1, rfl⟩, rfl, rfl⟩
    cases b1 with
    | true =>
      simp
      refine (p_awake _ _).mono ?_
      rintro r2 H2 N2 ⟨rfl, _⟩
      simp
    | false =>
      simp [el, te]
      refine (p_lexpr e ze H1 N1).mono ?_
      rintro r1 H1 N1 ⟨⟨n1, rfl, _⟩, rfl, rfl⟩
      by_cases c1 : 500 < n1
      · simp [c1]
        refine (p_awake _ _).mono ?_
        rintro r2 H2 N2 ⟨rfl, _⟩
        simp
      · simp [c1, fl, tf]
        refine (p_lexpr f zf H1 N1).mono ?_
        rintro r1 H1 N1 ⟨⟨n2, rfl, _⟩, rfl, rfl⟩
        by_cases c2 : 500 < n2
        · simp [c2]
          refine (p_awake _ _).mono ?_
          rintro r2 H2 N2 ⟨rfl, _⟩
          simp
        · by_cases c3 : (500 : Int) < s.size
          · simp [c2, c3]
            refine (p_awake _ _).mono ?_
            rintro r2 H2 N2 ⟨rfl, _⟩
            simp
          · simp [c2, c3]
            rw [← qq]
            refine tas_rest (a := a) (b := b) (e := e) (f := f) (s := s) (ka := ka) (kb := kb) oa za oe ze zs (by simp) (by simp) (by simp) (by simp) (by simp) fun A' H' N' h10 => ?_
            simp [h10]
end Go.Proofs.YtebopfpgicamiaaDoor
