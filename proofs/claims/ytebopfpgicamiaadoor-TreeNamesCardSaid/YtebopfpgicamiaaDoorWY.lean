/- tree: the examples: how deep; how many. -/
import Derived.Test.YtebopfpgicamiaaDoorWX
import Derived.Test.YtebopfpgicamiaaDoorWR
namespace Go.Proofs.YtebopfpgicamiaaDoor
set_option linter.unusedSimpArgs false
set_option linter.unusedVariables false
open Go Go.Fw
theorem flat_splice {sz : Nat} {y : List AV} : ∀ {L : List (List AV)} (h : ∀ x ∈ L, x.length = sz) {k : Nat} (hk : k < L.length), L.flatten.take (k * sz) ++ (y ++ L.flatten.drop (k * sz + sz)) = (L.set k y).flatten
  | [], _, k, hk => by simp at hk
  | a :: L, h, 0, hk => by
    have ha := h a (by simp)
    simp [← ha]
  | a :: L, h, k + 1, hk => by
    have ha := h a (by simp)
    have ih := flat_splice (y := y) (L := L) (fun x hx => h x (by simp [hx])) (k := k) (by simpa using hk)
    have e : (k + 1) * sz = a.length + k * sz := by rw [ha, Nat.succ_mul]; omega
    rw [List.flatten_cons, e, List.take_length_add_append, Nat.add_assoc, List.drop_length_add_append, List.append_assoc, ih]
    simp
def negC : Nat → List AV
  | 0 => oneC
  | n + 1 => [.lit (.int .u8 5), .lit (.string ⟨#[]⟩), .lit (.int .i64 0), .sl .exact 5 [negC n], .lit (.int .i64 0)]
def deepE : Nat → ExprV
  | 0 => exOne
  | n + 1 => .mk 5 noStr 0 .exact [deepE n] 0
theorem negC_len (n : Nat) : (negC n).length = 5 := by cases n <;> rfl
theorem negC_norm (n : Nat) : normL (negC n) = normL (deepE n).cells := by
  induction n with
  | zero => rfl
  | succ n ih =>
    show [_, _, _, AV.sl .exact 5 [normL (negC n)], _] = [_, _, _, AV.sl .exact 5 [normL (deepE n).cells], _]
    rw [ih]; rfl
theorem deepE_ok (n : Nat) : (deepE n).Ok := by
  induction n with
  | zero => exact exOne_ok
  | succ n ih => simp [deepE, ExprV.Ok, exprsOk, ih]
theorem deep_may : mayP [thD .exact [printS (deepE 58)]] = true := by kernel_rfl
theorem deep_over : mayP [thD .exact [printS (deepE 59)]] = false := by kernel_rfl
theorem deep_sz : stmtSz [printS (deepE 58)] ≤ 1000 ∧ stmtSz [printS (deepE 59)] ≤ 1000 := of_decide_eq_true (by kernel_rfl)
def printC (c : List AV) : List AV := [.lit (.int .u8 7), .lit (.string ⟨#[]⟩), .lit (.string ⟨#[]⟩), .lit (.bool false), .sl .exact 5 [c], .sl .nil 0 [], .sl .nil 0 [], .lit (.int .i64 0)]
theorem printC_norm {c : List AV} {e : ExprV} (h : normL c = normL e.cells) : normL (printC c) = normL (printS e).cells := by
  show [_, _, _, _, AV.sl .exact 5 [normL c], _, _, _] = [_, _, _, _, AV.sl .exact 5 [normL e.cells], _, _, _]
  rw [h]; rfl
theorem printS_ok {e : ExprV} (h : e.Ok) : (printS e).Ok := by simp [printS, StmtV.Ok, exprsOk, stmtsOk, h]
theorem p_at : PCall Tryd.prog 25 [.agg (printC (negC 58))] (bl true) := by
  have := p_okS (c := printC (negC 58)) (printS_ok (deepE_ok 58)) deep_sz.1 (printC_norm (negC_norm 58)) rfl
  rwa [deep_may] at this
theorem p_over : PCall Tryd.prog 25 [.agg (printC (negC 59))] (bl false) := by
  have := p_okS (c := printC (negC 59)) (printS_ok (deepE_ok 59)) deep_sz.2 (printC_norm (negC_norm 59)) rfl
  rwa [deep_over] at this
theorem negC_59 : negC 59 = [.lit (.int .u8 5), .lit (.string ⟨#[]⟩), .lit (.int .i64 0), .sl .exact 5 [negC 58], .lit (.int .i64 0)] := rfl

def zD : List AV := [.lit (.int .u8 0), .lit (.string ⟨#[]⟩), .lit (.int .i64 0), .sl .nil 0 [], .sl .nil 0 [], .lit (.int .i64 0)]
def lockC : List AV := [.lit (.int .u8 3), .lit (.string ⟨#[108]⟩), .lit (.int .i64 0), .sl .nil 0 [], .sl .nil 0 [], .lit (.int .i64 0)]
def manyM (i : Nat) : List (List AV) := List.replicate i lockC ++ List.replicate (256 - i) zD
theorem manyM_len {i : Nat} (h : i ≤ 256) : (manyM i).length = 256 := by simp [manyM]; omega
theorem manyM_6 (i : Nat) : ∀ x ∈ manyM i, x.length = 6 := fun x hx => by
  rcases List.mem_append.1 hx with h | h <;> (rw [List.eq_of_mem_replicate h]; rfl)
theorem manyM_set {i : Nat} (h : i < 256) : (manyM i).set i lockC = manyM (i + 1) := by
  unfold manyM
  rw [List.set_append_right _ _ (by simp), List.length_replicate, Nat.sub_self, show 256 - i = (256 - (i + 1)) + 1 by omega, List.replicate_succ, List.set_cons_zero, show List.replicate (i + 1) lockC = List.replicate i lockC ++ [lockC] from List.replicate_succ', List.append_assoc]
  rfl

section
variable {A : Nat → AV} {H : AHeap} {N : Nat} {fs : List Fr} {Q : Post}
theorem tn_deep {o : Nat} (h11 : A 11 = .mp o 0) (ho : H o = some (.blk (negC 0))) (hF : Fresh H N)
    (hk : ∀ A' H', (∀ t ∈ [1, 2, 8, 11], A' t = A t) → H' o = some (.blk (negC 58)) → (∀ j, j ≠ o → H' j = H j) → Fresh H' N → onward Tryd.prog fs Q .normal ⟨A', H', N⟩) :
    run Tryd.prog (.seq (.ops [⟨some 12, .val (.val (.lit (.int .i64 0))), none⟩]) (.block 8 (.loop a_bobbinlaw02_TreeNamesb2))) fs Q ⟨A, H, N⟩ := by
  simp
  refine run_loop (fun m s => ∃ i : Nat, i ≤ 58 ∧ m = 58 - i ∧ (∀ t ∈ [1, 2, 8, 11], s.A t = A t) ∧ s.A 12 = i64 i ∧ s.H o = some (.blk (negC i)) ∧ (∀ j, j ≠ o → s.H j = H j) ∧ s.N = N ∧ Fresh s.H s.N) 58 ?_ ?_
  · exact ⟨0, by omega, by omega, by simp, by simp, ho, fun _ _ => rfl, rfl, hF⟩
  · rintro m A1 H1 N1 ⟨i, hi, rfl, eA, e12, hb, hold, rfl, hF1⟩
    simp only at eA e12 hb hold hF1
    have e11 := (eA 11 (by simp)).trans h11
    have hw : IntKind.i64.wrap ((i : Int) + 1) = ((i + 1 : Nat) : Int) := by rw [wrap_i64 (by omega) (by omega)]; rfl
    have hl := negC_len i
    by_cases c : i < 58
    · have c' : (i : Int) < 58 := by omega
      have hs : negC (i + 1) = [.lit (.int .u8 5), .lit (.string ⟨#[]⟩), .lit (.int .i64 0), .sl .exact 5 [negC i], .lit (.int .i64 0)] := rfl
      obtain ⟨n, hn⟩ : ∃ n, negC i = n := ⟨_, rfl⟩
      rw [hn] at hb hl hs
      match n, hl with
      | [x0, x1, x2, x3, x4], _ =>
        simp [a_bobbinlaw02_TreeNamesb2, e11, e12, c', hb, splice, hw]
        exact ⟨58 - (i + 1), by omega, i + 1, by omega, rfl, ⟨eA 1 (by simp), eA 2 (by simp), eA 8 (by simp), h11.symm⟩, rfl, hs.symm, fun j hj => by rw [if_neg hj, hold j hj], fresh_rewr hF1 hb⟩
    · have c' : ¬ (i : Int) < 58 := by omega
      have : i = 58 := by omega
      subst this
      simp [a_bobbinlaw02_TreeNamesb2, e12]
      refine hk _ H1 (fun t ht => ?_) hb hold hF1
      rw [← eA t ht]
      simp only [upA]
      rw [if_neg (by rintro rfl; simp at ht), if_neg (by rintro rfl; simp at ht)]
theorem tn_at {c : ACode} {o : Nat} (hc : a_tn_at = c) (h8 : A 8 = .fn (.func 25) [] []) (h11 : A 11 = .mp o 0) (ho : H o = some (.blk (negC 58)))
    (hk : ∀ A', (∀ t ∈ [1, 2, 8, 11], A' t = A t) → A' 13 = bl true → onward Tryd.prog fs Q .normal ⟨A', H, N⟩) : run Tryd.prog c fs Q ⟨A, H, N⟩ := by
  have hP := p_at
  have hl := negC_len 58
  obtain ⟨n, hn⟩ : ∃ n, negC 58 = n := ⟨_, rfl⟩
  rw [hn] at ho hl hP
  unfold printC at hP
  subst hc
  match n, hl with
  | [x0, x1, x2, x3, x4], _ =>
    simp [a_tn_at, h8, h11, ho, splice]
    refine hP.acall ?_
    simp
    exact hk _ (by simp) (by simp)
theorem tn_over {c : ACode} {o : Nat} (hc : a_tn_ov = c) (h8 : A 8 = .fn (.func 25) [] []) (h11 : A 11 = .mp o 0) (ho : H o = some (.blk (negC 58)))
    (hk : ∀ A', (∀ t ∈ [1, 2, 8, 13], A' t = A t) → A' 14 = bl false → onward Tryd.prog fs Q .normal ⟨A', H, N⟩) : run Tryd.prog c fs Q ⟨A, H, N⟩ := by
  have hP := p_over
  rw [negC_59] at hP
  have hl := negC_len 58
  obtain ⟨n, hn⟩ : ∃ n, negC 58 = n := ⟨_, rfl⟩
  rw [hn] at ho hl hP
  unfold printC at hP
  subst hc
  match n, hl with
  | [x0, x1, x2, x3, x4], _ =>
    simp [a_tn_ov, h8, h11, ho, splice]
    refine hP.acall ?_
    simp
    exact hk _ (by simp) (by simp)
theorem aop_mkslice {sz bytes : Nat} {zs : List AV} {l c : AX} : aop (.mkslice sz bytes zs l c) ⟨A, H, N⟩ = (amake sz bytes zs ((⟨A, H, N⟩ : St).ev l) ((⟨A, H, N⟩ : St).ev c)).map fun x => (AV.ms N 0 x.1 sz, H.set N (.blk ((List.replicate x.1 zs).flatten)), N + 1) := rfl
theorem tn_make {c : ACode} (hc : (.ops [⟨some 122, .mkslice 6 88 zD (.val (.lit (.int .i64 256))) (.val (.lit (.int .i64 256))), none⟩, ⟨some 15, .val (.tmp 122), none⟩] : ACode) = c)
    (hk : ∀ A', (∀ t ∈ [1, 2, 8, 13, 14], A' t = A t) → A' 15 = .ms N 0 256 6 → onward Tryd.prog fs Q .normal ⟨A', H.set N (.blk (manyM 0).flatten), N + 1⟩) : run Tryd.prog c fs Q ⟨A, H, N⟩ := by
  have ham : amake 6 88 zD (.lit (.int .i64 256)) (.lit (.int .i64 256)) = some (256, 256) := rfl
  have h0 : List.replicate 256 zD = manyM 0 := rfl
  obtain ⟨F, hF⟩ : ∃ F, (manyM 0).flatten = F := ⟨_, rfl⟩
  rw [hF] at hk
  have hop : aop (.mkslice 6 88 zD (.val (.lit (.int .i64 256))) (.val (.lit (.int .i64 256)))) ⟨A, H, N⟩ = some (.ms N 0 256 6, H.set N (.blk F), N + 1) := by
    rw [aop_mkslice, ev_val, ham, Option.map_some, h0, hF]
  obtain ⟨z, hz⟩ : ∃ z, zD = z := ⟨_, rfl⟩
  subst hc
  rw [hz] at hop ⊢
  simp only [run_ops, runOps_mkslice, hop]
  simp
  exact hk _ (by simp) (by simp)
set_option maxRecDepth 20000 in
theorem tn_many {o : Nat} (h15 : A 15 = .ms o 0 256 6) (ho : H o = some (.blk (manyM 0).flatten)) (hF : Fresh H N)
    (hk : ∀ A' H', (∀ t ∈ [1, 2, 8, 13, 14, 15], A' t = A t) → H' o = some (.blk (manyM 256).flatten) → (∀ j, j ≠ o → H' j = H j) → Fresh H' N → onward Tryd.prog fs Q .normal ⟨A', H', N⟩) :
    run Tryd.prog (.seq (.ops [⟨some 123, .val (.tmp 15), none⟩, ⟨some 124, .len 1 (.tmp 123), none⟩, ⟨some 125, .val (.val (.lit (.int .i64 0))), none⟩]) (.block 10 (.loop a_bobbinlaw02_TreeNamesb1))) fs Q ⟨A, H, N⟩ := by
  simp [h15]
  refine run_loop (fun m s => ∃ i : Nat, i ≤ 256 ∧ m = 256 - i ∧ (∀ t ∈ [1, 2, 8, 13, 14, 15], s.A t = A t) ∧ s.A 124 = i64 256 ∧ s.A 125 = i64 i ∧ s.H o = some (.blk (manyM i).flatten) ∧ (∀ j, j ≠ o → s.H j = H j) ∧ s.N = N ∧ Fresh s.H s.N) 256 ?_ ?_
  · exact ⟨0, by omega, by omega, by simp [h15], by simp, by simp, ho, fun _ _ => rfl, rfl, hF⟩
  · rintro m A1 H1 N1 ⟨i, hi, rfl, eA, e124, e125, hb, hold, rfl, hF1⟩
    simp only at eA e124 e125 hb hold hF1
    have e15 := (eA 15 (by simp)).trans h15
    have hw : IntKind.i64.wrap ((i : Int) + 1) = ((i + 1 : Nat) : Int) := by rw [wrap_i64 (by omega) (by omega)]; rfl
    by_cases c : i < 256
    · have c' : (i : Int) < 256 := by omega
      have hsp := flat_splice (y := lockC) (manyM_6 i) (k := i) (by rw [manyM_len hi]; omega)
      rw [manyM_set c] at hsp
      have hfl : (manyM i).flatten.length = 1536 := by rw [flatten_len (manyM_6 i), manyM_len hi]
      obtain ⟨F, hFF⟩ : ∃ F, (manyM i).flatten = F := ⟨_, rfl⟩
      obtain ⟨F', hFF'⟩ : ∃ F', (manyM (i + 1)).flatten = F' := ⟨_, rfl⟩
      rw [hFF] at hb hsp hfl
      rw [hFF'] at hsp
      unfold lockC at hsp
      have hle : i * 6 + 6 ≤ F.length := by omega
      clear hfl
      have hix : aindex 6 (.ms o 0 256 6) (i64 (i : Nat)) = some (.mp o (i * 6)) := by simp [aindex, c']
      simp [a_bobbinlaw02_TreeNamesb1, e15, e124, e125, c', hb, splice, hw, hle, hix]
      refine ⟨256 - (i + 1), by omega, i + 1, by omega, rfl, ⟨eA 1 (by simp), eA 2 (by simp), eA 8 (by simp), eA 13 (by simp), eA 14 (by simp), h15.symm⟩, rfl, by rw [hFF']; exact hsp, fun j hj => ?_, fresh_rewr hF1 hb⟩
      rw [if_neg hj, hold j hj]
    · have c' : ¬ (i : Int) < 256 := by omega
      have : i = 256 := by omega
      subst this
      simp [a_bobbinlaw02_TreeNamesb1, e124, e125]
      refine hk _ H1 (fun t ht => ?_) hb hold hF1
      rw [← eA t ht]
      simp only [upA]
      rw [if_neg (by rintro rfl; simp at ht)]
end
end Go.Proofs.YtebopfpgicamiaaDoor
