/- tree: something is asked of all elements: the same text for each type (printed by all.py). -/
import Derived.Test.YtebopfpgicamiaaDoorKA
import Derived.Test.YtebopfpgicamiaaDoorM6
import Derived.Test.YtebopfpgicamiaaDoorK0
namespace Go.Proofs.YtebopfpgicamiaaDoor
set_option linter.unusedSimpArgs false
set_option linter.unusedVariables false
open Go Go.Fw
def hd1 (x : List AV) : AV := x.headD .junk
/-- Something is sought. -/
def FindC (g : FuncId) (capt : List AV) (es : List AV) (N : Nat) (J : Nat → AHeap → Prop) (Kx : AHeap → Prop) : Prop :=
  ∀ i x H1 N1, es[i]? = some x → N ≤ N1 → J i H1 → ACall Tryd.prog g (x :: capt) H1 N1 (fun r H2 _ => (r = bl false ∧ J (i + 1) H2) ∨ (r = bl true ∧ Kx H2))
theorem take_len {n : Nat} {l : List AV} (h : l.length = n) : l.take n = l := by rw [← h, List.take_length]
def oneBox (N : Nat) (a : AV) : AHeap := noHeap.set N (.blk [a])
theorem oneBox_at (N : Nat) (a : AV) : oneBox N a N = some (.blk [a]) := by simp [oneBox, AHeap.set]

theorem p_IndexFunc_string {k : SK} {es : List (List AV)} (hs : ∀ x ∈ es, x.length = 1) (hl : es.length ≤ 1000000000) {g : FuncId} {capt : List AV} {J : Nat → AHeap → Prop} {Kx : AHeap → Prop} {H : AHeap} {N : Nat}
    (hp : FindC g capt (es.map hd1) N J Kx) (h0 : J 0 H) : ACall Tryd.prog 84 [.sl k 1 es, .fn (.func g) [] capt] H N (fun r H' _ => ∃ n : Int, r = i64 n ∧ ((n < 0 ∧ J es.length H') ∨ (0 ≤ n ∧ Kx H'))) := by
  refine acallF mixed c_slices_IndexFunc_string_string (by simp) fun hF => ?_
  simp [a_slices_IndexFunc_string_string]
  refine run_loop (fun m s => ∃ j : Nat, j ≤ es.length ∧ m = es.length - j ∧ s.A 0 = .sl k 1 es ∧ s.A 1 = .fn (.func g) [] capt ∧ s.A 7 = i64 es.length ∧ s.A 8 = i64 j ∧ N ≤ s.N ∧ J j s.H) es.length ?_ ?_
  · exact ⟨0, by omega, by omega, by simp, by simp, by simp, by simp, Nat.le_refl _, h0⟩
  · rintro m A1 H1 N1 ⟨j, hj, rfl, e0, e1, e7, e8, hN1, hJ⟩
    simp only at e0 e1 e7 e8 hN1 hJ
    by_cases hlt : j < es.length
    · have n1 : (j : Int) < es.length := by omega
      have hq : aindex 1 (.sl k 1 es) (i64 (j : Nat)) = some (.ip es[j] 0) := aindex_sl (by omega) (by simp [hlt])
      have hld : ∀ X, aload X false 1 (.ip es[j] 0) = some (hd1 es[j]) := fun X => by
        have h1 := hs _ (List.getElem_mem hlt)
        match he : es[j], h1 with
        | [v], _ => rfl
      have hwi : IntKind.i64.wrap ((j : Int) + 1) = ((j + 1 : Nat) : Int) := by rw [wrap_i64 (by omega) (by omega)]; rfl
      simp [a_slices_IndexFunc_string_stringb1, e0, e1, e7, e8, n1, hq, hld, -aload]
      refine (hp j (hd1 es[j]) H1 N1 (by simp [hlt]) hN1 hJ).monoF ?_
      rintro r H2 N2 (⟨rfl, hJ2⟩ | ⟨rfl, hK⟩) hF2 hN2
      · simp [e0, e1, e7, e8, hwi]
        exact ⟨es.length - (j + 1), by omega, j + 1, by omega, rfl, rfl, by omega, hJ2⟩
      · simp
        exact .inr hK
    · have n1 : ¬ (j : Int) < es.length := by omega
      have hje : j = es.length := by omega
      subst hje
      simp [a_slices_IndexFunc_string_stringb1, e7, e8, n1]
      exact hJ

theorem p_ContainsFunc_string {k : SK} {es : List (List AV)} (hs : ∀ x ∈ es, x.length = 1) (hl : es.length ≤ 1000000000) {g : FuncId} {capt : List AV} {J : Nat → AHeap → Prop} {Kx : AHeap → Prop} {H : AHeap} {N : Nat}
    (hp : FindC g capt (es.map hd1) N J Kx) (h0 : J 0 H) : ACall Tryd.prog 73 [.sl k 1 es, .fn (.func g) [] capt] H N (fun r H' _ => (r = bl false ∧ J es.length H') ∨ (r = bl true ∧ Kx H')) := by
  refine acallF mixed c_slices_ContainsFunc_string_string (by simp) fun hF => ?_
  simp [a_slices_ContainsFunc_string_string]
  refine (p_IndexFunc_string hs hl hp h0).mono ?_
  rintro r H' N' ⟨n, rfl, ⟨h1, h2⟩ | ⟨h1, h2⟩⟩
  · have n1 : ¬ (0 ≤ n) := by omega
    simp [n1]; exact h2
  · simp [h1]; exact h2

theorem p_all_string {k : SK} {es : List (List AV)} (hs : ∀ x ∈ es, x.length = 1) (hl : es.length ≤ 1000000000) {g : FuncId} {capt : List AV} {J : Nat → AHeap → Prop} {Kx : AHeap → Prop} {H : AHeap} {N : Nat}
    (hp : AskC Tryd.prog g capt (es.map hd1) N J Kx) (h0 : J 0 H) : ACall Tryd.prog 52 [.sl k 1 es, .fn (.func g) [] capt] H N (fun r H' _ => Sep noHeap (AskR es.length J Kx r) H') := by
  refine acallF mixed c_tree_all_string (by simp) fun hF => ?_
  simp [a_tree_all_string]
  have h1 : Sep (oneBox N (.fn (.func g) [] capt)) (J 0) (H.set N (.blk [.fn (.func g) [] capt])) := (Sep.of h0).alloc hF _
  refine (p_ContainsFunc_string (J := fun i => Sep (oneBox N (.fn (.func g) [] capt)) (J i)) (Kx := Sep (oneBox N (.fn (.func g) [] capt)) Kx) hs hl (fun i x H1 N1 hx hN1 hJ => ?_) h1).mono ?_
  · have hb := hJ.at_ (oneBox_at N _)
    obtain ⟨y, hy, rfl⟩ : ∃ y, es[i]? = some y ∧ x = hd1 y := by
      simp only [List.getElem?_map, Option.map_eq_some_iff] at hx
      obtain ⟨y, h1, h2⟩ := hx
      exact ⟨y, h1, h2.symm⟩
    have hyl := hs y (List.mem_of_getElem? hy)
    refine acallF mixed c_tree_all_string_1 (by simp) fun hF1 => ?_
    simp [a_tree_all_string_1, hb, hyl, take_len hyl]
    refine (ACall.sep hJ fun K hK => hp i (hd1 y) K N1 hx (by omega) hK).mono ?_
    rintro r H2 N2 ⟨hS, hF2, hN2⟩
    obtain ⟨K, s1, s2, s3, ⟨rfl, s4⟩ | ⟨rfl, s4⟩⟩ := hS
    · simp
      exact ⟨K, s1, s2, s3, s4⟩
    · simp
      exact ⟨K, s1, s2, s3, s4⟩
  · rintro r H' N' (⟨rfl, hJ⟩ | ⟨rfl, hK⟩)
    · simp
      exact (hJ.less (le_noHeap _)).mono fun K hK => .inl ⟨by simp, hK⟩
    · simp
      exact (hK.less (le_noHeap _)).mono fun K hK => .inr ⟨by simp, hK⟩

theorem p_IndexFunc_Expr {k : SK} {es : List (List AV)} (hs : ∀ x ∈ es, x.length = 5) (hl : es.length ≤ 1000000000) {g : FuncId} {capt : List AV} {J : Nat → AHeap → Prop} {Kx : AHeap → Prop} {H : AHeap} {N : Nat}
    (hp : FindC g capt (es.map AV.agg) N J Kx) (h0 : J 0 H) : ACall Tryd.prog 79 [.sl k 5 es, .fn (.func g) [] capt] H N (fun r H' _ => ∃ n : Int, r = i64 n ∧ ((n < 0 ∧ J es.length H') ∨ (0 ≤ n ∧ Kx H'))) := by
  refine acallF mixed c_slices_IndexFunc_api_Expr_api_Expr (by simp) fun hF => ?_
  simp [a_slices_IndexFunc_api_Expr_api_Expr]
  refine run_loop (fun m s => ∃ j : Nat, j ≤ es.length ∧ m = es.length - j ∧ s.A 0 = .sl k 5 es ∧ s.A 1 = .fn (.func g) [] capt ∧ s.A 7 = i64 es.length ∧ s.A 8 = i64 j ∧ N ≤ s.N ∧ J j s.H) es.length ?_ ?_
  · exact ⟨0, by omega, by omega, by simp, by simp, by simp, by simp, Nat.le_refl _, h0⟩
  · rintro m A1 H1 N1 ⟨j, hj, rfl, e0, e1, e7, e8, hN1, hJ⟩
    simp only at e0 e1 e7 e8 hN1 hJ
    by_cases hlt : j < es.length
    · have n1 : (j : Int) < es.length := by omega
      have hq : aindex 5 (.sl k 5 es) (i64 (j : Nat)) = some (.ip es[j] 0) := aindex_sl (by omega) (by simp [hlt])
      have hld : ∀ X, aload X true 5 (.ip es[j] 0) = some (.agg es[j]) := fun X => by
        have h1 := hs _ (List.getElem_mem hlt)
        simp [aload, apart, h1, take_len h1]
      have hwi : IntKind.i64.wrap ((j : Int) + 1) = ((j + 1 : Nat) : Int) := by rw [wrap_i64 (by omega) (by omega)]; rfl
      simp [a_slices_IndexFunc_api_Expr_api_Exprb1, e0, e1, e7, e8, n1, hq, hld, -aload]
      refine (hp j (AV.agg es[j]) H1 N1 (by simp [hlt]) hN1 hJ).monoF ?_
      rintro r H2 N2 (⟨rfl, hJ2⟩ | ⟨rfl, hK⟩) hF2 hN2
      · simp [e0, e1, e7, e8, hwi]
        exact ⟨es.length - (j + 1), by omega, j + 1, by omega, rfl, rfl, by omega, hJ2⟩
      · simp
        exact .inr hK
    · have n1 : ¬ (j : Int) < es.length := by omega
      have hje : j = es.length := by omega
      subst hje
      simp [a_slices_IndexFunc_api_Expr_api_Exprb1, e7, e8, n1]
      exact hJ

theorem p_ContainsFunc_Expr {k : SK} {es : List (List AV)} (hs : ∀ x ∈ es, x.length = 5) (hl : es.length ≤ 1000000000) {g : FuncId} {capt : List AV} {J : Nat → AHeap → Prop} {Kx : AHeap → Prop} {H : AHeap} {N : Nat}
    (hp : FindC g capt (es.map AV.agg) N J Kx) (h0 : J 0 H) : ACall Tryd.prog 62 [.sl k 5 es, .fn (.func g) [] capt] H N (fun r H' _ => (r = bl false ∧ J es.length H') ∨ (r = bl true ∧ Kx H')) := by
  refine acallF mixed c_slices_ContainsFunc_api_Expr_api_Expr (by simp) fun hF => ?_
  simp [a_slices_ContainsFunc_api_Expr_api_Expr]
  refine (p_IndexFunc_Expr hs hl hp h0).mono ?_
  rintro r H' N' ⟨n, rfl, ⟨h1, h2⟩ | ⟨h1, h2⟩⟩
  · have n1 : ¬ (0 ≤ n) := by omega
    simp [n1]; exact h2
  · simp [h1]; exact h2

theorem p_all_Expr {k : SK} {es : List (List AV)} (hs : ∀ x ∈ es, x.length = 5) (hl : es.length ≤ 1000000000) {g : FuncId} {capt : List AV} {J : Nat → AHeap → Prop} {Kx : AHeap → Prop} {H : AHeap} {N : Nat}
    (hp : AskC Tryd.prog g capt (es.map AV.agg) N J Kx) (h0 : J 0 H) : ACall Tryd.prog 42 [.sl k 5 es, .fn (.func g) [] capt] H N (fun r H' _ => Sep noHeap (AskR es.length J Kx r) H') := by
  refine acallF mixed c_tree_all_api_Expr (by simp) fun hF => ?_
  simp [a_tree_all_api_Expr]
  have h1 : Sep (oneBox N (.fn (.func g) [] capt)) (J 0) (H.set N (.blk [.fn (.func g) [] capt])) := (Sep.of h0).alloc hF _
  refine (p_ContainsFunc_Expr (J := fun i => Sep (oneBox N (.fn (.func g) [] capt)) (J i)) (Kx := Sep (oneBox N (.fn (.func g) [] capt)) Kx) hs hl (fun i x H1 N1 hx hN1 hJ => ?_) h1).mono ?_
  · have hb := hJ.at_ (oneBox_at N _)
    obtain ⟨y, hy, rfl⟩ : ∃ y, es[i]? = some y ∧ x = AV.agg y := by
      simp only [List.getElem?_map, Option.map_eq_some_iff] at hx
      obtain ⟨y, h1, h2⟩ := hx
      exact ⟨y, h1, h2.symm⟩
    have hyl := hs y (List.mem_of_getElem? hy)
    refine acallF mixed c_tree_all_api_Expr_1 (by simp) fun hF1 => ?_
    simp [a_tree_all_api_Expr_1, hb, hyl, take_len hyl]
    refine (ACall.sep hJ fun K hK => hp i (AV.agg y) K N1 hx (by omega) hK).mono ?_
    rintro r H2 N2 ⟨hS, hF2, hN2⟩
    obtain ⟨K, s1, s2, s3, ⟨rfl, s4⟩ | ⟨rfl, s4⟩⟩ := hS
    · simp
      exact ⟨K, s1, s2, s3, s4⟩
    · simp
      exact ⟨K, s1, s2, s3, s4⟩
  · rintro r H' N' (⟨rfl, hJ⟩ | ⟨rfl, hK⟩)
    · simp
      exact (hJ.less (le_noHeap _)).mono fun K hK => .inl ⟨by simp, hK⟩
    · simp
      exact (hK.less (le_noHeap _)).mono fun K hK => .inr ⟨by simp, hK⟩

theorem p_IndexFunc_Stmt {k : SK} {es : List (List AV)} (hs : ∀ x ∈ es, x.length = 8) (hl : es.length ≤ 1000000000) {g : FuncId} {capt : List AV} {J : Nat → AHeap → Prop} {Kx : AHeap → Prop} {H : AHeap} {N : Nat}
    (hp : FindC g capt (es.map AV.agg) N J Kx) (h0 : J 0 H) : ACall Tryd.prog 85 [.sl k 8 es, .fn (.func g) [] capt] H N (fun r H' _ => ∃ n : Int, r = i64 n ∧ ((n < 0 ∧ J es.length H') ∨ (0 ≤ n ∧ Kx H'))) := by
  refine acallF mixed c_slices_IndexFunc_api_Stmt_api_Stmt (by simp) fun hF => ?_
  simp [a_slices_IndexFunc_api_Stmt_api_Stmt]
  refine run_loop (fun m s => ∃ j : Nat, j ≤ es.length ∧ m = es.length - j ∧ s.A 0 = .sl k 8 es ∧ s.A 1 = .fn (.func g) [] capt ∧ s.A 7 = i64 es.length ∧ s.A 8 = i64 j ∧ N ≤ s.N ∧ J j s.H) es.length ?_ ?_
  · exact ⟨0, by omega, by omega, by simp, by simp, by simp, by simp, Nat.le_refl _, h0⟩
  · rintro m A1 H1 N1 ⟨j, hj, rfl, e0, e1, e7, e8, hN1, hJ⟩
    simp only at e0 e1 e7 e8 hN1 hJ
    by_cases hlt : j < es.length
    · have n1 : (j : Int) < es.length := by omega
      have hq : aindex 8 (.sl k 8 es) (i64 (j : Nat)) = some (.ip es[j] 0) := aindex_sl (by omega) (by simp [hlt])
      have hld : ∀ X, aload X true 8 (.ip es[j] 0) = some (.agg es[j]) := fun X => by
        have h1 := hs _ (List.getElem_mem hlt)
        simp [aload, apart, h1, take_len h1]
      have hwi : IntKind.i64.wrap ((j : Int) + 1) = ((j + 1 : Nat) : Int) := by rw [wrap_i64 (by omega) (by omega)]; rfl
      simp [a_slices_IndexFunc_api_Stmt_api_Stmtb1, e0, e1, e7, e8, n1, hq, hld, -aload]
      refine (hp j (AV.agg es[j]) H1 N1 (by simp [hlt]) hN1 hJ).monoF ?_
      rintro r H2 N2 (⟨rfl, hJ2⟩ | ⟨rfl, hK⟩) hF2 hN2
      · simp [e0, e1, e7, e8, hwi]
        exact ⟨es.length - (j + 1), by omega, j + 1, by omega, rfl, rfl, by omega, hJ2⟩
      · simp
        exact .inr hK
    · have n1 : ¬ (j : Int) < es.length := by omega
      have hje : j = es.length := by omega
      subst hje
      simp [a_slices_IndexFunc_api_Stmt_api_Stmtb1, e7, e8, n1]
      exact hJ

theorem p_ContainsFunc_Stmt {k : SK} {es : List (List AV)} (hs : ∀ x ∈ es, x.length = 8) (hl : es.length ≤ 1000000000) {g : FuncId} {capt : List AV} {J : Nat → AHeap → Prop} {Kx : AHeap → Prop} {H : AHeap} {N : Nat}
    (hp : FindC g capt (es.map AV.agg) N J Kx) (h0 : J 0 H) : ACall Tryd.prog 75 [.sl k 8 es, .fn (.func g) [] capt] H N (fun r H' _ => (r = bl false ∧ J es.length H') ∨ (r = bl true ∧ Kx H')) := by
  refine acallF mixed c_slices_ContainsFunc_api_Stmt_api_Stmt (by simp) fun hF => ?_
  simp [a_slices_ContainsFunc_api_Stmt_api_Stmt]
  refine (p_IndexFunc_Stmt hs hl hp h0).mono ?_
  rintro r H' N' ⟨n, rfl, ⟨h1, h2⟩ | ⟨h1, h2⟩⟩
  · have n1 : ¬ (0 ≤ n) := by omega
    simp [n1]; exact h2
  · simp [h1]; exact h2

theorem p_all_Stmt {k : SK} {es : List (List AV)} (hs : ∀ x ∈ es, x.length = 8) (hl : es.length ≤ 1000000000) {g : FuncId} {capt : List AV} {J : Nat → AHeap → Prop} {Kx : AHeap → Prop} {H : AHeap} {N : Nat}
    (hp : AskC Tryd.prog g capt (es.map AV.agg) N J Kx) (h0 : J 0 H) : ACall Tryd.prog 53 [.sl k 8 es, .fn (.func g) [] capt] H N (fun r H' _ => Sep noHeap (AskR es.length J Kx r) H') := by
  refine acallF mixed c_tree_all_api_Stmt (by simp) fun hF => ?_
  simp [a_tree_all_api_Stmt]
  have h1 : Sep (oneBox N (.fn (.func g) [] capt)) (J 0) (H.set N (.blk [.fn (.func g) [] capt])) := (Sep.of h0).alloc hF _
  refine (p_ContainsFunc_Stmt (J := fun i => Sep (oneBox N (.fn (.func g) [] capt)) (J i)) (Kx := Sep (oneBox N (.fn (.func g) [] capt)) Kx) hs hl (fun i x H1 N1 hx hN1 hJ => ?_) h1).mono ?_
  · have hb := hJ.at_ (oneBox_at N _)
    obtain ⟨y, hy, rfl⟩ : ∃ y, es[i]? = some y ∧ x = AV.agg y := by
      simp only [List.getElem?_map, Option.map_eq_some_iff] at hx
      obtain ⟨y, h1, h2⟩ := hx
      exact ⟨y, h1, h2.symm⟩
    have hyl := hs y (List.mem_of_getElem? hy)
    refine acallF mixed c_tree_all_api_Stmt_1 (by simp) fun hF1 => ?_
    simp [a_tree_all_api_Stmt_1, hb, hyl, take_len hyl]
    refine (ACall.sep hJ fun K hK => hp i (AV.agg y) K N1 hx (by omega) hK).mono ?_
    rintro r H2 N2 ⟨hS, hF2, hN2⟩
    obtain ⟨K, s1, s2, s3, ⟨rfl, s4⟩ | ⟨rfl, s4⟩⟩ := hS
    · simp
      exact ⟨K, s1, s2, s3, s4⟩
    · simp
      exact ⟨K, s1, s2, s3, s4⟩
  · rintro r H' N' (⟨rfl, hJ⟩ | ⟨rfl, hK⟩)
    · simp
      exact (hJ.less (le_noHeap _)).mono fun K hK => .inl ⟨by simp, hK⟩
    · simp
      exact (hK.less (le_noHeap _)).mono fun K hK => .inr ⟨by simp, hK⟩

theorem p_IndexFunc_Decl {k : SK} {es : List (List AV)} (hs : ∀ x ∈ es, x.length = 6) (hl : es.length ≤ 1000000000) {g : FuncId} {capt : List AV} {J : Nat → AHeap → Prop} {Kx : AHeap → Prop} {H : AHeap} {N : Nat}
    (hp : FindC g capt (es.map AV.agg) N J Kx) (h0 : J 0 H) : ACall Tryd.prog 72 [.sl k 6 es, .fn (.func g) [] capt] H N (fun r H' _ => ∃ n : Int, r = i64 n ∧ ((n < 0 ∧ J es.length H') ∨ (0 ≤ n ∧ Kx H'))) := by
  refine acallF mixed c_slices_IndexFunc_api_Decl_api_Decl (by simp) fun hF => ?_
  simp [a_slices_IndexFunc_api_Decl_api_Decl]
  refine run_loop (fun m s => ∃ j : Nat, j ≤ es.length ∧ m = es.length - j ∧ s.A 0 = .sl k 6 es ∧ s.A 1 = .fn (.func g) [] capt ∧ s.A 7 = i64 es.length ∧ s.A 8 = i64 j ∧ N ≤ s.N ∧ J j s.H) es.length ?_ ?_
  · exact ⟨0, by omega, by omega, by simp, by simp, by simp, by simp, Nat.le_refl _, h0⟩
  · rintro m A1 H1 N1 ⟨j, hj, rfl, e0, e1, e7, e8, hN1, hJ⟩
    simp only at e0 e1 e7 e8 hN1 hJ
    by_cases hlt : j < es.length
    · have n1 : (j : Int) < es.length := by omega
      have hq : aindex 6 (.sl k 6 es) (i64 (j : Nat)) = some (.ip es[j] 0) := aindex_sl (by omega) (by simp [hlt])
      have hld : ∀ X, aload X true 6 (.ip es[j] 0) = some (.agg es[j]) := fun X => by
        have h1 := hs _ (List.getElem_mem hlt)
        simp [aload, apart, h1, take_len h1]
      have hwi : IntKind.i64.wrap ((j : Int) + 1) = ((j + 1 : Nat) : Int) := by rw [wrap_i64 (by omega) (by omega)]; rfl
      simp [a_slices_IndexFunc_api_Decl_api_Declb1, e0, e1, e7, e8, n1, hq, hld, -aload]
      refine (hp j (AV.agg es[j]) H1 N1 (by simp [hlt]) hN1 hJ).monoF ?_
      rintro r H2 N2 (⟨rfl, hJ2⟩ | ⟨rfl, hK⟩) hF2 hN2
      · simp [e0, e1, e7, e8, hwi]
        exact ⟨es.length - (j + 1), by omega, j + 1, by omega, rfl, rfl, by omega, hJ2⟩
      · simp
        exact .inr hK
    · have n1 : ¬ (j : Int) < es.length := by omega
      have hje : j = es.length := by omega
      subst hje
      simp [a_slices_IndexFunc_api_Decl_api_Declb1, e7, e8, n1]
      exact hJ

theorem p_ContainsFunc_Decl {k : SK} {es : List (List AV)} (hs : ∀ x ∈ es, x.length = 6) (hl : es.length ≤ 1000000000) {g : FuncId} {capt : List AV} {J : Nat → AHeap → Prop} {Kx : AHeap → Prop} {H : AHeap} {N : Nat}
    (hp : FindC g capt (es.map AV.agg) N J Kx) (h0 : J 0 H) : ACall Tryd.prog 50 [.sl k 6 es, .fn (.func g) [] capt] H N (fun r H' _ => (r = bl false ∧ J es.length H') ∨ (r = bl true ∧ Kx H')) := by
  refine acallF mixed c_slices_ContainsFunc_api_Decl_api_Decl (by simp) fun hF => ?_
  simp [a_slices_ContainsFunc_api_Decl_api_Decl]
  refine (p_IndexFunc_Decl hs hl hp h0).mono ?_
  rintro r H' N' ⟨n, rfl, ⟨h1, h2⟩ | ⟨h1, h2⟩⟩
  · have n1 : ¬ (0 ≤ n) := by omega
    simp [n1]; exact h2
  · simp [h1]; exact h2

theorem p_all_Decl {k : SK} {es : List (List AV)} (hs : ∀ x ∈ es, x.length = 6) (hl : es.length ≤ 1000000000) {g : FuncId} {capt : List AV} {J : Nat → AHeap → Prop} {Kx : AHeap → Prop} {H : AHeap} {N : Nat}
    (hp : AskC Tryd.prog g capt (es.map AV.agg) N J Kx) (h0 : J 0 H) : ACall Tryd.prog 29 [.sl k 6 es, .fn (.func g) [] capt] H N (fun r H' _ => Sep noHeap (AskR es.length J Kx r) H') := by
  refine acallF mixed c_tree_all_api_Decl (by simp) fun hF => ?_
  simp [a_tree_all_api_Decl]
  have h1 : Sep (oneBox N (.fn (.func g) [] capt)) (J 0) (H.set N (.blk [.fn (.func g) [] capt])) := (Sep.of h0).alloc hF _
  refine (p_ContainsFunc_Decl (J := fun i => Sep (oneBox N (.fn (.func g) [] capt)) (J i)) (Kx := Sep (oneBox N (.fn (.func g) [] capt)) Kx) hs hl (fun i x H1 N1 hx hN1 hJ => ?_) h1).mono ?_
  · have hb := hJ.at_ (oneBox_at N _)
    obtain ⟨y, hy, rfl⟩ : ∃ y, es[i]? = some y ∧ x = AV.agg y := by
      simp only [List.getElem?_map, Option.map_eq_some_iff] at hx
      obtain ⟨y, h1, h2⟩ := hx
      exact ⟨y, h1, h2.symm⟩
    have hyl := hs y (List.mem_of_getElem? hy)
    refine acallF mixed c_tree_all_api_Decl_1 (by simp) fun hF1 => ?_
    simp [a_tree_all_api_Decl_1, hb, hyl, take_len hyl]
    refine (ACall.sep hJ fun K hK => hp i (AV.agg y) K N1 hx (by omega) hK).mono ?_
    rintro r H2 N2 ⟨hS, hF2, hN2⟩
    obtain ⟨K, s1, s2, s3, ⟨rfl, s4⟩ | ⟨rfl, s4⟩⟩ := hS
    · simp
      exact ⟨K, s1, s2, s3, s4⟩
    · simp
      exact ⟨K, s1, s2, s3, s4⟩
  · rintro r H' N' (⟨rfl, hJ⟩ | ⟨rfl, hK⟩)
    · simp
      exact (hJ.less (le_noHeap _)).mono fun K hK => .inl ⟨by simp, hK⟩
    · simp
      exact (hK.less (le_noHeap _)).mono fun K hK => .inr ⟨by simp, hK⟩

end Go.Proofs.YtebopfpgicamiaaDoor
