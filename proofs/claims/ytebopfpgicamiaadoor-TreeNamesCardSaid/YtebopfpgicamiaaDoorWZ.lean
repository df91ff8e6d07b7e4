/- tree: the law TreeNames. -/
import Derived.Test.YtebopfpgicamiaaDoorWY
namespace Go.Proofs.YtebopfpgicamiaaDoor
set_option linter.unusedSimpArgs false
set_option linter.unusedVariables false
open Go Go.Fw
def lockD : DeclV := ⟨3, ⟨#[108]⟩, 0, .nil, [], .nil, [], 0⟩
theorem lock_norm (n : Nat) : normLL (List.replicate n lockC) = normLL (declCells (List.replicate n lockD)) := by
  rw [normLL_map, normLL_map, declCells, List.map_replicate, List.map_replicate, List.map_replicate]
  rfl
theorem lock_ok (n : Nat) : ∀ d ∈ List.replicate n lockD, d.Ok := fun d hd => by
  rw [List.eq_of_mem_replicate hd]
  exact ⟨by simp [lockD], by simp [lockD], by simp [lockD], by simp [lockD], trivial⟩
theorem lock_sz (n : Nat) : declSz (List.replicate n lockD) = 2 * n := by
  induction n with
  | zero => rfl
  | succ n ih => rw [List.replicate_succ, declSz, ih]; have : lockD.sz = 2 := rfl; omega
theorem lock_may (n : Nat) : mayP (List.replicate n lockD) = decide (n ≤ 256) := by
  have h1 : (List.replicate n lockD).all declB = true := by
    have hd : declB lockD = true := by kernel_rfl
    rw [List.all_eq_true]
    intro d hm
    rw [List.eq_of_mem_replicate hm, hd]
  have h2 : depP (List.replicate n lockD) = 0 := by
    induction n with
    | zero => rfl
    | succ n ih =>
      rw [List.replicate_succ, depP, ih (by rw [List.all_eq_true] at h1 ⊢; intro d hm; exact h1 d (by rw [List.replicate_succ]; simp [hm]))]
      rfl
  simp [mayP, h1, h2]
theorem p_manyM (n : Nat) (hn : n ≤ 1000) : PCall Tryd.prog 11 [.sl .any 6 (List.replicate n lockC)] (bl (decide (n ≤ 256))) := by
  have h := p_May (k := .any) (lock_ok n) (by rw [lock_sz]; omega)
  rw [lock_may] at h
  refine PCall.nrm h ?_
  have e : ∀ es : List (List AV), normL [AV.sl .any 6 es] = [AV.sl .any 6 (normLL es)] := fun es => by
    cases es <;> rfl
  rw [e, e, lock_norm]
theorem p_one1 (d : DeclV) (hd : d.Ok) (hz : d.sz ≤ 1000) : PCall Tryd.prog 11 [.sl .exact 6 [d.cells]] (bl (mayP [d])) :=
  p_May (k := .exact) (l := [d]) (by simpa using hd) (by simp [declSz]; omega)
def okS : StmtV := .mk 8 lF ⟨#[118]⟩ true .exact [exOne] .nil [] .nil [] 0
def okC (c : List AV) : List AV := [.lit (.int .u8 8), .lit (.string ⟨#[102]⟩), .lit (.string ⟨#[118]⟩), .lit (.bool true), .sl .exact 5 [c], .sl .nil 0 [], .sl .nil 0 [], .lit (.int .i64 0)]
theorem p_okOne : PCall Tryd.prog 25 [.agg (okC oneC)] (bl true) := by
  have h1 : mayP [thD .exact [okS]] = true := by kernel_rfl
  have := p_okS (c := okC oneC) (s := okS) (by simp [okS, StmtV.Ok, exprsOk, stmtsOk, exOne_ok]) (of_decide_eq_true (by kernel_rfl)) (by kernel_rfl) rfl
  rwa [h1] at this
def dD (kind : Int) (n : Int) : DeclV := ⟨kind, lA, n, .nil, [], .nil, [], 0⟩
def dC (kind : Int) (n : Int) : List AV := [.lit (.int .u8 kind), .lit (.string ⟨#[97]⟩), .lit (.int .i64 n), .sl .nil 0 [], .sl .nil 0 [], .lit (.int .i64 0)]
theorem p_dD (kind n : Int) {m : Bool} (h0 : 0 ≤ kind) (h1 : kind ≤ 255) (h2 : -9223372036854775808 ≤ n) (h3 : n < 9223372036854775808) (hm : mayP [dD kind n] = m) : PCall Tryd.prog 11 [.sl .exact 6 [dC kind n]] (bl m) := by
  have h := p_one1 (dD kind n) ⟨h0, h1, h2, h3, trivial⟩ (show (dD 0 0).sz ≤ 1000 from of_decide_eq_true (by kernel_rfl))
  rw [hm] at h
  exact PCall.nrm h rfl
def dP : DeclV := ⟨5, lA, 0, .exact, [lB], .nil, [], 0⟩
def dPC : List AV := [.lit (.int .u8 5), .lit (.string ⟨#[97]⟩), .lit (.int .i64 0), .sl .exact 1 [[.lit (.string ⟨#[98]⟩)]], .sl .nil 0 [], .lit (.int .i64 0)]
theorem p_dP : PCall Tryd.prog 11 [.sl .exact 6 [dPC]] (bl false) := by
  have hm : mayP [dP] = false := by kernel_rfl
  have h := p_one1 dP ⟨by simp [dP], by simp [dP], by simp [dP], by simp [dP], trivial⟩ (of_decide_eq_true (by kernel_rfl))
  rw [hm] at h
  exact PCall.nrm h rfl
theorem p_nilMay : PCall Tryd.prog 11 [.sl .nil 0 []] (bl true) := by
  have h := p_May (k := .nil) (l := []) (by simp) (by simp [declSz])
  exact PCall.nrm h rfl

set_option maxRecDepth 20000 in
theorem tn_end {A : Nat → AV} {H : AHeap} {N o om : Nat} {fs : List Fr} {Q : Post} (h1 : A 1 = .mp o 0) (h2 : A 2 = str (nm 31)) (h8 : A 8 = .fn (.func 25) [] []) (h13 : A 13 = bl true) (h14 : A 14 = bl false) (h15 : A 15 = .ms om 0 256 6)
    (ho : H o = some (.blk oneC)) (hm : H om = some (.blk (manyM 256).flatten)) (hne : o ≠ om) (hoN : o < N)
    (hk : ∀ A' H' N', A' 0 = bl true → onward Tryd.prog fs Q .normal ⟨A', H', N'⟩) :
    run Tryd.prog (.ops (o_tne0 ++ (o_tne1 ++ (o_tne2 ++ (o_tne3 ++ (o_tne4 ++ (o_tne5 ++ (o_tne6 ++ (o_tne7 ++ (o_tne8 ++ (o_tne9 ++ (o_tne10 ++ (o_tne11 ++ o_tne12))))))))))))) fs Q ⟨A, H, N⟩ := by
  obtain ⟨o1, q1⟩ : ∃ c, o_tne1 = c := ⟨_, rfl⟩
  obtain ⟨o2, q2⟩ : ∃ c, o_tne2 = c := ⟨_, rfl⟩
  obtain ⟨o3, q3⟩ : ∃ c, o_tne3 = c := ⟨_, rfl⟩
  obtain ⟨o4, q4⟩ : ∃ c, o_tne4 = c := ⟨_, rfl⟩
  obtain ⟨o5, q5⟩ : ∃ c, o_tne5 = c := ⟨_, rfl⟩
  obtain ⟨o6, q6⟩ : ∃ c, o_tne6 = c := ⟨_, rfl⟩
  obtain ⟨o7, q7⟩ : ∃ c, o_tne7 = c := ⟨_, rfl⟩
  obtain ⟨o8, q8⟩ : ∃ c, o_tne8 = c := ⟨_, rfl⟩
  obtain ⟨o9, q9⟩ : ∃ c, o_tne9 = c := ⟨_, rfl⟩
  obtain ⟨o10, q10⟩ : ∃ c, o_tne10 = c := ⟨_, rfl⟩
  obtain ⟨o11, q11⟩ : ∃ c, o_tne11 = c := ⟨_, rfl⟩
  obtain ⟨o12, q12⟩ : ∃ c, o_tne12 = c := ⟨_, rfl⟩
  have hmm : manyM 256 = List.replicate 256 lockC := by simp only [manyM, Nat.sub_self, List.replicate_zero, List.append_nil]
  have hsz : ∀ n, ∀ x ∈ List.replicate n lockC, x.length = 6 := fun n x hx => by rw [List.eq_of_mem_replicate hx]; rfl
  have hfr : ∀ n, freeLL (List.replicate n lockC) = true := fun n => freeLL_of fun x hx => by rw [List.eq_of_mem_replicate hx]; rfl
  have hv := view_flat (hsz 256) (hfr 256) (List.length_replicate) (by rw [← hmm]; exact hm)
  have cM := p_manyM 256 (by omega)
  have cM2 := p_manyM 257 (by omega)
  rw [show decide (256 ≤ 256) = true from rfl] at cM
  rw [show decide (257 ≤ 256) = false from rfl] at cM2
  have hfl : (manyM 256).flatten.length = 1536 := by rw [flatten_len (manyM_6 256), manyM_len (by omega)]
  have htk : (manyM 256).flatten.take 6 = lockC := by
    rw [hmm, show List.replicate 256 lockC = lockC :: List.replicate 255 lockC from rfl, List.flatten_cons]
    exact List.take_left' rfl
  have hap : (manyM 256).flatten ++ lockC = (List.replicate 257 lockC).flatten := by
    rw [hmm, show List.replicate 257 lockC = List.replicate 256 lockC ++ [lockC] from List.replicate_succ', List.flatten_append]
    simp only [List.flatten_cons, List.flatten_nil, List.append_nil]
  obtain ⟨F, hF⟩ : ∃ F, (manyM 256).flatten = F := ⟨_, rfl⟩
  rw [hF] at hm hfl htk hap
  have hix : aindex 6 (.ms om 0 256 6) (i64 0) = some (.mp om 0) := rfl
  have hld : aload H true 6 (.mp om 0) = some (.agg lockC) := by
    simp only [aload, hm]
    simp [apart, hfl, htk]
  have happ : aappend false 6 88 H N (.ms om 0 256 6) (.sl .exact 6 [lockC]) = some (.ms N 0 257 6, (H.del om).set N (.blk (F ++ lockC)), N + 1) := by
    have hsrc : asrc H 6 (.sl .exact 6 [lockC]) = some (lockC, 1) := rfl
    simp only [aappend, hsrc, hm]
    rw [if_pos ⟨trivial, by omega, by simp only [lim]; omega, by omega⟩, List.drop_zero, List.take_of_length_le (by omega)]
  obtain ⟨H2, hH2⟩ : ∃ H2, (H.del om).set N (.blk (F ++ lockC)) = H2 := ⟨_, rfl⟩
  rw [hH2] at happ
  have hm2 : H2 N = some (.blk (List.replicate 257 lockC).flatten) := by rw [← hH2, hap]; simp [AHeap.set]
  have ho2 : H2 o = some (.blk oneC) := by rw [← hH2]; simp only [AHeap.set, AHeap.del]; rw [if_neg (by omega), if_neg hne, ho]
  have hv2 := view_flat (hsz 257) (hfr 257) (List.length_replicate) hm2
  have cN : PCall Tryd.prog 23 [str (nm 31)] (bl (nameB (nm 31))) := p_Name _ (by have := name_size; omega)
  rw [good_name] at cN
  generalize List.replicate 256 lockC = M at cM hv
  generalize List.replicate 257 lockC = M2 at cM2 hv2
  rw [q1, q2, q3, q4, q5, q6, q7, q8, q9, q10, q11, q12]
  have kN := p_nilMay
  have kO := p_okOne
  have k1 := p_dD 2 1024 (m := true) (by omega) (by omega) (by omega) (by omega) (by kernel_rfl)
  have k2 := p_dD 2 1025 (m := false) (by omega) (by omega) (by omega) (by omega) (by kernel_rfl)
  have k3 := p_dD 2 0 (m := false) (by omega) (by omega) (by omega) (by omega) (by kernel_rfl)
  have k4 := p_dD 1 (-9223372036854775808) (m := true) (by omega) (by omega) (by omega) (by omega) (by kernel_rfl)
  have k5 := p_dD 3 1 (m := false) (by omega) (by omega) (by omega) (by omega) (by kernel_rfl)
  have k6 := p_dP
  have k7 := p_dD 6 0 (m := false) (by omega) (by omega) (by omega) (by omega) (by kernel_rfl)
  unfold dC at k1 k2 k3 k4 k5 k7
  unfold dPC at k6
  unfold okC oneC at kO
  unfold oneC at ho2
  unfold lockC at happ htk
  have hle : 6 ≤ F.length := by omega
  simp [run_append, o_tne0, h2]
  refine PCall.acall cN ?_
  simp [run_append, h13, h14]
  subst q1
  simp [o_tne1, h15]
  refine cM.seen rfl (one_arg hv) ?_
  simp [run_append]
  subst q2
  simp [o_tne2, h15, hix, hm, hle, htk, splice, happ]
  refine cM2.seen rfl (one_arg hv2) ?_
  simp [run_append]
  subst q3
  simp [o_tne3]
  refine PCall.acall kN ?_
  simp [run_append]
  subst q4
  simp [o_tne4, h1, h8, ho2, splice]
  refine PCall.acall kO ?_
  simp [run_append]
  subst q5
  simp [o_tne5, splice]
  refine PCall.acall k1 ?_
  simp [run_append]
  subst q6
  simp [o_tne6, splice]
  refine PCall.acall k2 ?_
  simp [run_append]
  subst q7
  simp [o_tne7, splice]
  refine PCall.acall k3 ?_
  simp [run_append]
  subst q8
  simp [o_tne8, splice]
  refine PCall.acall k4 ?_
  simp [run_append]
  subst q9
  simp [o_tne9, splice]
  refine PCall.acall k5 ?_
  simp [run_append]
  subst q10
  simp [o_tne10, splice]
  refine PCall.acall k6 ?_
  simp [run_append]
  subst q11
  simp [o_tne11, splice]
  refine PCall.acall k7 ?_
  simp [run_append]
  subst q12
  simp [o_tne12]
  refine (p_awake _ _).mono ?_
  rintro r2 H3 N3 ⟨rfl, _⟩
  simp
  exact hk _ _ _ (by simp)
set_option maxRecDepth 20000 in
theorem p_TreeNames (H : AHeap) (N : Nat) : ACall Tryd.prog 4 [] H N (fun r _ _ => r = bl true) := by
  obtain ⟨n1, e1⟩ : ∃ c, (.seq (.ops [⟨some 3, .val (.val (.lit (.int .i64 0))), none⟩]) (.block 0 (.loop a_bobbinlaw02_TreeNamesb6)) : ACode) = c := ⟨_, rfl⟩
  obtain ⟨n2, e2⟩ : ∃ c, (.seq a_tn_ns (.block 2 (.loop a_bobbinlaw02_TreeNamesb5)) : ACode) = c := ⟨_, rfl⟩
  obtain ⟨n3, e3⟩ : ∃ c, (.seq a_tn_es (.block 4 (.loop a_bobbinlaw02_TreeNamesb4)) : ACode) = c := ⟨_, rfl⟩
  obtain ⟨n4, e4⟩ : ∃ c, (.seq (.seq a_tn_s0 (.seq (.draw l_tn) a_tn_s1)) (.block 6 (.loop a_bobbinlaw02_TreeNamesb3)) : ACode) = c := ⟨_, rfl⟩
  obtain ⟨n5, e5⟩ : ∃ c, (.seq (.ops [⟨some 12, .val (.val (.lit (.int .i64 0))), none⟩]) (.block 8 (.loop a_bobbinlaw02_TreeNamesb2)) : ACode) = c := ⟨_, rfl⟩
  obtain ⟨n6, e6⟩ : ∃ c, a_tn_at = c := ⟨_, rfl⟩
  obtain ⟨n7, e7⟩ : ∃ c, a_tn_ov = c := ⟨_, rfl⟩
  obtain ⟨n8, e8⟩ : ∃ c, (.ops [⟨some 122, .mkslice 6 88 [(.lit (.int .u8 0)), (.lit (.string ⟨#[]⟩)), (.lit (.int .i64 0)), (.sl .nil 0 []), (.sl .nil 0 []), (.lit (.int .i64 0))] (.val (.lit (.int .i64 256))) (.val (.lit (.int .i64 256))), none⟩, ⟨some 15, .val (.tmp 122), none⟩] : ACode) = c := ⟨_, rfl⟩
  obtain ⟨n9, e9⟩ : ∃ c, (.seq (.ops [⟨some 123, .val (.tmp 15), none⟩, ⟨some 124, .len 1 (.tmp 123), none⟩, ⟨some 125, .val (.val (.lit (.int .i64 0))), none⟩]) (.block 10 (.loop a_bobbinlaw02_TreeNamesb1)) : ACode) = c := ⟨_, rfl⟩
  obtain ⟨n0, e0⟩ : ∃ c, (.ops (o_tne0 ++ (o_tne1 ++ (o_tne2 ++ (o_tne3 ++ (o_tne4 ++ (o_tne5 ++ (o_tne6 ++ (o_tne7 ++ (o_tne8 ++ (o_tne9 ++ (o_tne10 ++ (o_tne11 ++ o_tne12)))))))))))) : ACode) = c := ⟨_, rfl⟩
  refine acallF mixed c_bobbinlaw02_TreeNames (by simp) fun hF => ?_
  unfold a_bobbinlaw02_TreeNames
  rw [e1, e2, e3, e4, e5, e6, e7, e8, e9, e0]
  simp [splice]
  obtain ⟨H1, hH1⟩ : ∃ H1, H.set N (.blk oneC) = H1 := ⟨_, rfl⟩
  have ho1 : H1 N = some (.blk oneC) := by rw [← hH1]; simp [AHeap.set]
  have hF1 : Fresh H1 (N + 1) := hH1 ▸ hF.set _
  unfold oneC at hH1
  rw [hH1, ← e1]
  refine tn_name (by simp; rfl) fun A1 g2 g1 => ?_
  have g1 : A1 1 = .mp N 0 := g1.trans (by simp)
  simp
  rw [← e2]
  refine tn_names rfl g2 fun A2 i1 i2 => ?_
  have i1 := i1.trans g1
  have i2 := i2.trans g2
  simp
  rw [← e3]
  refine tn_exprs (o := N) rfl i1 ho1 hF1 fun A3 H3 N3 j1 j2 hold3 hN3 hF3 => ?_
  have j1 := j1.trans i1
  have j2 := j2.trans i2
  have ho3 : H3 N = some (.blk oneC) := by rw [hold3 N (by omega), ho1]
  simp
  rw [← e4]
  refine tn_stmts (o := N) rfl rfl (by simp [j1]) (by simp) ho3 hF3 fun A4 H4 N4 k hold4 hN4 hF4 => ?_
  have k1 := (k 1 (by simp)).trans (show _ = AV.mp N 0 by simp [j1])
  have k2 := (k 2 (by simp)).trans (show _ = str (nm 31) by simp [j2])
  have k8 := (k 8 (by simp)).trans (show _ = AV.fn (.func 25) [] [] by simp)
  have ho4 : H4 N = some (.blk oneC) := by rw [hold4 N (by omega), ho3]
  have ho4' := ho4
  unfold oneC at ho4'
  simp [k1, ho4', splice]
  obtain ⟨H5, hH5⟩ : ∃ H5, H4.set N4 (.blk oneC) = H5 := ⟨_, rfl⟩
  have ho5 : H5 N = some (.blk oneC) := by rw [← hH5]; simp only [AHeap.set]; rw [if_neg (by omega), ho4]
  have hd5 : H5 N4 = some (.blk (negC 0)) := by rw [← hH5]; simp [AHeap.set]; rfl
  have hF5 : Fresh H5 (N4 + 1) := hH5 ▸ hF4.set _
  unfold oneC at hH5
  rw [hH5, ← e5]
  refine tn_deep (o := N4) (by simp) hd5 hF5 fun A6 H6 l hd6 hold6 hF6 => ?_
  have l1 := (l 1 (by simp)).trans (show _ = AV.mp N 0 by simp [k1])
  have l2 := (l 2 (by simp)).trans (show _ = str (nm 31) by simp [k2])
  have l8 := (l 8 (by simp)).trans (show _ = AV.fn (.func 25) [] [] by simp [k8])
  have l11 := (l 11 (by simp)).trans (show _ = AV.mp N4 0 by simp)
  have ho6 : H6 N = some (.blk oneC) := by rw [hold6 N (by omega), ho5]
  simp
  refine tn_at (o := N4) e6 l8 l11 hd6 fun A7 m m13 => ?_
  have m1 := (m 1 (by simp)).trans l1
  have m2 := (m 2 (by simp)).trans l2
  have m8 := (m 8 (by simp)).trans l8
  have m11 := (m 11 (by simp)).trans l11
  simp
  refine tn_over (o := N4) e7 m8 m11 hd6 fun A8 n n14 => ?_
  have n1' := (n 1 (by simp)).trans m1
  have n2' := (n 2 (by simp)).trans m2
  have n8' := (n 8 (by simp)).trans m8
  have n13 := (n 13 (by simp)).trans m13
  simp
  refine tn_make e8 fun A9 q q15 => ?_
  have q1 := (q 1 (by simp)).trans n1'
  have q2 := (q 2 (by simp)).trans n2'
  have q8 := (q 8 (by simp)).trans n8'
  have q13 := (q 13 (by simp)).trans n13
  have q14 := (q 14 (by simp)).trans n14
  obtain ⟨H7, hH7⟩ : ∃ H7, H6.set (N4 + 1) (.blk (manyM 0).flatten) = H7 := ⟨_, rfl⟩
  have ho7 : H7 N = some (.blk oneC) := by rw [← hH7]; simp only [AHeap.set]; rw [if_neg (by omega), ho6]
  have hm7 : H7 (N4 + 1) = some (.blk (manyM 0).flatten) := by rw [← hH7]; simp only [AHeap.set]; rw [if_pos trivial]
  have hF7 : Fresh H7 (N4 + 1 + 1) := hH7 ▸ hF6.set _
  rw [hH7]
  simp
  rw [← e9]
  refine tn_many (o := N4 + 1) q15 hm7 hF7 fun A10 H10 r hm10 hold10 hF10 => ?_
  have r1 := (r 1 (by simp)).trans q1
  have r2 := (r 2 (by simp)).trans q2
  have r8 := (r 8 (by simp)).trans q8
  have r13 := (r 13 (by simp)).trans q13
  have r14 := (r 14 (by simp)).trans q14
  have r15 := (r 15 (by simp)).trans q15
  have ho10 : H10 N = some (.blk oneC) := by rw [hold10 N (by omega), ho7]
  simp
  rw [← e0]
  refine tn_end (o := N) (om := N4 + 1) r1 r2 r8 r13 r14 r15 ho10 hm10 (by omega) (by omega) fun A11 H11 N11 z0 => ?_
  simp [z0]
end Go.Proofs.YtebopfpgicamiaaDoor
