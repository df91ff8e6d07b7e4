/- flow: slices.ContainsFunc, slices.EqualFunc: the same text for each type (printed by cf.py). -/
import Derived.Test.YtcoepjbipbihfaaGreatDoorV2
import Derived.Test.YtcoepjbipbihfaaGreatDoorKF
namespace Go.Proofs.YtcoepjbipbihfaaGreatDoor
set_option linter.unusedSimpArgs false
set_option linter.unusedVariables false
open Go Go.Fw

theorem p_IndexFunc_Phi {H : AHeap} {a : AV} {es : List (List AV)} (ha : RdSl H 2 es a) (hs : ∀ x ∈ es, x.length = 2) {g : FuncId} {capt : List AV} {ts : List Bool} (htl : ts.length = es.length) (hl : es.length ≤ maxLen)
    (hg : ∀ (i : Nat) (x : List AV) (b : Bool), es[i]? = some x → ts[i]? = some b → PCall Tryz.prog g ((.agg x) :: capt) (bl b)) (N : Nat) :
    ACall Tryz.prog 103 [a, .fn (.func g) [] capt] H N (fun r H' N' => (∃ n : Int, r = i64 n ∧ (0 ≤ n ↔ ts.any id = true)) ∧ H' = H ∧ N' = N) := by
  have hm : maxLen = 9223372036854775807 := rfl
  refine acall mixed c_slices_IndexFunc_api_Phi_api_Phi (by simp) ?_
  have hla := ha.len
  simp [a_slices_IndexFunc_api_Phi_api_Phi, hla, -alen]
  refine run_loop (fun m x => ∃ j, j ≤ es.length ∧ m = es.length - j ∧ x.A 0 = a ∧ x.A 1 = .fn (.func g) [] capt ∧ x.A 7 = i64 es.length ∧ x.A 8 = i64 j ∧ x.H = H ∧ x.N = N ∧ (ts.take j).any id = false) es.length ?_ ?_
  · exact ⟨0, by omega, by omega, by simp, by simp, by simp, by simp, by simp, by simp, by simp⟩
  · rintro m A H1 N1 ⟨j, hj, rfl, h0, h1, h7, h8, rfl, rfl, hn⟩
    simp only at h0 h1 h7 h8
    by_cases hjl : j = es.length
    · subst hjl
      rw [← htl, List.take_length] at hn
      simp [a_slices_IndexFunc_api_Phi_api_Phib1, h7, h8, hn]
      simpa using hn
    · have hlt : j < es.length := by omega
      obtain ⟨p, hp, pp⟩ := ha.at hs (List.getElem?_eq_getElem hlt)
      have hlt2 : j < ts.length := by omega
      have hc := hg j es[j] ts[j] (List.getElem?_eq_getElem hlt) (List.getElem?_eq_getElem hlt2)
      have lp : aload H1 true 2 p = some (.agg es[j]) := by
        have := pp.load
        rw [hs _ (List.getElem_mem hlt)] at this
        exact this
      simp [a_slices_IndexFunc_api_Phi_api_Phib1, h0, h1, h7, h8, hlt, hp, lp, -aload]
      refine hc.acall ?_
      by_cases hv : ts[j] = true
      · simp [hv]
        exact hv ▸ List.getElem_mem hlt2
      · simp [hv, h0, h1, h7, h8]
        refine ⟨es.length - (j + 1), by omega, j + 1, by omega, rfl, by rw [wrap_i64 (by omega) (by omega)]; rfl, ?_⟩
        have : (ts.take (j + 1)).any id = false := by rw [take_next hlt2, List.any_append, hn]; simp [hv]
        simpa using this

theorem p_ContainsFunc_Phi {H : AHeap} {a : AV} {es : List (List AV)} (ha : RdSl H 2 es a) (hs : ∀ x ∈ es, x.length = 2) {g : FuncId} {capt : List AV} {ts : List Bool} (htl : ts.length = es.length) (hl : es.length ≤ maxLen)
    (hg : ∀ (i : Nat) (x : List AV) (b : Bool), es[i]? = some x → ts[i]? = some b → PCall Tryz.prog g ((.agg x) :: capt) (bl b)) (N : Nat) :
    ACall Tryz.prog 67 [a, .fn (.func g) [] capt] H N (fun r H' N' => r = bl (ts.any id) ∧ H' = H ∧ N' = N) := by
  refine acall mixed c_slices_ContainsFunc_api_Phi_api_Phi (by simp) ?_
  simp [a_slices_ContainsFunc_api_Phi_api_Phi]
  refine (p_IndexFunc_Phi ha hs htl hl hg N).mono ?_
  rintro r H1 N1 ⟨⟨n, rfl, hn⟩, rfl, rfl⟩
  have : decide (0 ≤ n) = ts.any id := by
    cases h : ts.any id <;> simp [hn, h]
  simp [this]

theorem p_IndexFunc_Block {H : AHeap} {a : AV} {es : List (List AV)} (ha : RdSl H 4 es a) (hs : ∀ x ∈ es, x.length = 4) {g : FuncId} {capt : List AV} {ts : List Bool} (htl : ts.length = es.length) (hl : es.length ≤ maxLen)
    (hg : ∀ (i : Nat) (x : List AV) (b : Bool), es[i]? = some x → ts[i]? = some b → PCall Tryz.prog g ((.agg x) :: capt) (bl b)) (N : Nat) :
    ACall Tryz.prog 63 [a, .fn (.func g) [] capt] H N (fun r H' N' => (∃ n : Int, r = i64 n ∧ (0 ≤ n ↔ ts.any id = true)) ∧ H' = H ∧ N' = N) := by
  have hm : maxLen = 9223372036854775807 := rfl
  refine acall mixed c_slices_IndexFunc_api_Block_api_Block (by simp) ?_
  have hla := ha.len
  simp [a_slices_IndexFunc_api_Block_api_Block, hla, -alen]
  refine run_loop (fun m x => ∃ j, j ≤ es.length ∧ m = es.length - j ∧ x.A 0 = a ∧ x.A 1 = .fn (.func g) [] capt ∧ x.A 7 = i64 es.length ∧ x.A 8 = i64 j ∧ x.H = H ∧ x.N = N ∧ (ts.take j).any id = false) es.length ?_ ?_
  · exact ⟨0, by omega, by omega, by simp, by simp, by simp, by simp, by simp, by simp, by simp⟩
  · rintro m A H1 N1 ⟨j, hj, rfl, h0, h1, h7, h8, rfl, rfl, hn⟩
    simp only at h0 h1 h7 h8
    by_cases hjl : j = es.length
    · subst hjl
      rw [← htl, List.take_length] at hn
      simp [a_slices_IndexFunc_api_Block_api_Blockb1, h7, h8, hn]
      simpa using hn
    · have hlt : j < es.length := by omega
      obtain ⟨p, hp, pp⟩ := ha.at hs (List.getElem?_eq_getElem hlt)
      have hlt2 : j < ts.length := by omega
      have hc := hg j es[j] ts[j] (List.getElem?_eq_getElem hlt) (List.getElem?_eq_getElem hlt2)
      have lp : aload H1 true 4 p = some (.agg es[j]) := by
        have := pp.load
        rw [hs _ (List.getElem_mem hlt)] at this
        exact this
      simp [a_slices_IndexFunc_api_Block_api_Blockb1, h0, h1, h7, h8, hlt, hp, lp, -aload]
      refine hc.acall ?_
      by_cases hv : ts[j] = true
      · simp [hv]
        exact hv ▸ List.getElem_mem hlt2
      · simp [hv, h0, h1, h7, h8]
        refine ⟨es.length - (j + 1), by omega, j + 1, by omega, rfl, by rw [wrap_i64 (by omega) (by omega)]; rfl, ?_⟩
        have : (ts.take (j + 1)).any id = false := by rw [take_next hlt2, List.any_append, hn]; simp [hv]
        simpa using this

theorem p_ContainsFunc_Block {H : AHeap} {a : AV} {es : List (List AV)} (ha : RdSl H 4 es a) (hs : ∀ x ∈ es, x.length = 4) {g : FuncId} {capt : List AV} {ts : List Bool} (htl : ts.length = es.length) (hl : es.length ≤ maxLen)
    (hg : ∀ (i : Nat) (x : List AV) (b : Bool), es[i]? = some x → ts[i]? = some b → PCall Tryz.prog g ((.agg x) :: capt) (bl b)) (N : Nat) :
    ACall Tryz.prog 23 [a, .fn (.func g) [] capt] H N (fun r H' N' => r = bl (ts.any id) ∧ H' = H ∧ N' = N) := by
  refine acall mixed c_slices_ContainsFunc_api_Block_api_Block (by simp) ?_
  simp [a_slices_ContainsFunc_api_Block_api_Block]
  refine (p_IndexFunc_Block ha hs htl hl hg N).mono ?_
  rintro r H1 N1 ⟨⟨n, rfl, hn⟩, rfl, rfl⟩
  have : decide (0 ≤ n) = ts.any id := by
    cases h : ts.any id <;> simp [hn, h]
  simp [this]

theorem p_IndexFunc_int {H : AHeap} {a : AV} {es : List (List AV)} (ha : RdSl H 1 es a) (hs : ∀ x ∈ es, x.length = 1) {g : FuncId} {capt : List AV} {ts : List Bool} (htl : ts.length = es.length) (hl : es.length ≤ maxLen)
    (hg : ∀ (i : Nat) (x : List AV) (b : Bool), es[i]? = some x → ts[i]? = some b → PCall Tryz.prog g ((hd1 x) :: capt) (bl b)) (N : Nat) :
    ACall Tryz.prog 104 [a, .fn (.func g) [] capt] H N (fun r H' N' => (∃ n : Int, r = i64 n ∧ (0 ≤ n ↔ ts.any id = true)) ∧ H' = H ∧ N' = N) := by
  have hm : maxLen = 9223372036854775807 := rfl
  refine acall mixed c_slices_IndexFunc_int_int (by simp) ?_
  have hla := ha.len
  simp [a_slices_IndexFunc_int_int, hla, -alen]
  refine run_loop (fun m x => ∃ j, j ≤ es.length ∧ m = es.length - j ∧ x.A 0 = a ∧ x.A 1 = .fn (.func g) [] capt ∧ x.A 7 = i64 es.length ∧ x.A 8 = i64 j ∧ x.H = H ∧ x.N = N ∧ (ts.take j).any id = false) es.length ?_ ?_
  · exact ⟨0, by omega, by omega, by simp, by simp, by simp, by simp, by simp, by simp, by simp⟩
  · rintro m A H1 N1 ⟨j, hj, rfl, h0, h1, h7, h8, rfl, rfl, hn⟩
    simp only at h0 h1 h7 h8
    by_cases hjl : j = es.length
    · subst hjl
      rw [← htl, List.take_length] at hn
      simp [a_slices_IndexFunc_int_intb1, h7, h8, hn]
      simpa using hn
    · have hlt : j < es.length := by omega
      obtain ⟨p, hp, pp⟩ := ha.at hs (List.getElem?_eq_getElem hlt)
      have hlt2 : j < ts.length := by omega
      have hc := hg j es[j] ts[j] (List.getElem?_eq_getElem hlt) (List.getElem?_eq_getElem hlt2)
      have lp : aload H1 false 1 p = some (hd1 es[j]) := by
        obtain ⟨v, hv⟩ : ∃ v, es[j] = [v] := by
          have := hs _ (List.getElem_mem hlt)
          match he : es[j], this with
          | [v], _ => exact ⟨v, rfl⟩
        rw [hv] at pp ⊢
        exact pp.one
      simp [a_slices_IndexFunc_int_intb1, h0, h1, h7, h8, hlt, hp, lp, -aload]
      refine hc.acall ?_
      by_cases hv : ts[j] = true
      · simp [hv]
        exact hv ▸ List.getElem_mem hlt2
      · simp [hv, h0, h1, h7, h8]
        refine ⟨es.length - (j + 1), by omega, j + 1, by omega, rfl, by rw [wrap_i64 (by omega) (by omega)]; rfl, ?_⟩
        have : (ts.take (j + 1)).any id = false := by rw [take_next hlt2, List.any_append, hn]; simp [hv]
        simpa using this

theorem p_ContainsFunc_int {H : AHeap} {a : AV} {es : List (List AV)} (ha : RdSl H 1 es a) (hs : ∀ x ∈ es, x.length = 1) {g : FuncId} {capt : List AV} {ts : List Bool} (htl : ts.length = es.length) (hl : es.length ≤ maxLen)
    (hg : ∀ (i : Nat) (x : List AV) (b : Bool), es[i]? = some x → ts[i]? = some b → PCall Tryz.prog g ((hd1 x) :: capt) (bl b)) (N : Nat) :
    ACall Tryz.prog 69 [a, .fn (.func g) [] capt] H N (fun r H' N' => r = bl (ts.any id) ∧ H' = H ∧ N' = N) := by
  refine acall mixed c_slices_ContainsFunc_int_int (by simp) ?_
  simp [a_slices_ContainsFunc_int_int]
  refine (p_IndexFunc_int ha hs htl hl hg N).mono ?_
  rintro r H1 N1 ⟨⟨n, rfl, hn⟩, rfl, rfl⟩
  have : decide (0 ≤ n) = ts.any id := by
    cases h : ts.any id <;> simp [hn, h]
  simp [this]

theorem p_EqualFunc_Phi {a b : SK} {la lb : List PhiV} {g : FuncId} {r : PhiV → PhiV → Bool} (hl : la.length ≤ maxLen) (hg : ∀ x ∈ la, ∀ y ∈ lb, PCall Tryz.prog g [.agg x.cells, .agg y.cells] (bl (r x y))) :
    PCall Tryz.prog 77 [.sl a 2 (phiCells la), .sl b 2 (phiCells lb), .fn (.func g) [] []] (bl (eqvL r la lb)) := by
  have hm : maxLen = 9223372036854775807 := rfl
  refine PCall.of fun N => acallF mixed c_slices_EqualFunc_api_Phi_api_Phi_api_Phi_api_Phi (by simp) fun hF => ?_
  obtain ⟨B, hB⟩ : ∃ B, eqvL r la lb = B := ⟨_, rfl⟩
  rw [hB]
  by_cases hll : la.length = lb.length
  · simp [a_slices_EqualFunc_api_Phi_api_Phi_api_Phi_api_Phi, hll]
    refine run_loop (fun m s => ∃ j, j ≤ la.length ∧ m = la.length - j ∧ s.A 1 = .sl b 2 (phiCells lb) ∧ s.A 2 = .fn (.func g) [] [] ∧ s.A 15 = .sl a 2 (phiCells la) ∧ s.A 16 = i64 la.length ∧ s.A 17 = i64 j ∧ ∀ i (h : i < la.length) (h2 : i < lb.length), i < j → r la[i] lb[i] = true) la.length ?_ ?_
    · exact ⟨0, by omega, by omega, by simp, by simp, by simp, by simp [hll], by simp, fun i _ _ hi => by omega⟩
    · rintro m A H1 N1 ⟨j, hj, rfl, h1, h2, h15, h16, h17, hok⟩
      simp only at h1 h2 h15 h16 h17
      by_cases hjl : j = la.length
      · subst hjl
        have : B = true := by rw [← hB]; exact eqvL_iff.2 ⟨hll, fun i h h2 => hok i h h2 h⟩
        simp [a_slices_EqualFunc_api_Phi_api_Phi_api_Phi_api_Phib1, h16, h17, this]
        exact .free rfl
      · have hlt : j < la.length := by omega
        have hlt2 : j < lb.length := by omega
        obtain ⟨x, hx⟩ : ∃ x, la[j] = x := ⟨_, rfl⟩
        obtain ⟨y, hy⟩ : ∃ y, lb[j] = y := ⟨_, rfl⟩
        have hix : aindex 2 (.sl a 2 (phiCells la)) (i64 j) = some (.ip x.cells 0) := aindex_sl (by omega) (by simp [phiCells, hlt, hx])
        have hiy : aindex 2 (.sl b 2 (phiCells lb)) (i64 j) = some (.ip y.cells 0) := aindex_sl (by omega) (by simp [phiCells, hlt2, hy])
        have hsx : splice 0 x.cells [AV.lit (Value.int .i64 0), AV.sl .nil 0 []] = x.cells := splice_full (by simp)
        have hsy : splice 0 y.cells [AV.lit (Value.int .i64 0), AV.sl .nil 0 []] = y.cells := splice_full (by simp)
        have hc := hg x (by rw [← hx]; exact List.getElem_mem hlt) y (by rw [← hy]; exact List.getElem_mem hlt2)
        simp [a_slices_EqualFunc_api_Phi_api_Phi_api_Phi_api_Phib1, h1, h2, h15, h16, h17, hlt, hix, hiy, hsx, hsy, show N1 ≠ N1 + 1 by omega]
        refine hc.acall ?_
        by_cases hv : r x y = true
        · simp [hv, h1, h2, h15, h16, h17]
          refine ⟨la.length - (j + 1), by omega, j + 1, by omega, rfl, by rw [wrap_i64 (by omega) (by omega)]; rfl, fun i h h2 hij => ?_⟩
          by_cases hij2 : i = j
          · subst hij2; rw [hx, hy]; exact hv
          · exact hok i h h2 (by omega)
        · have hvf : r la[j] lb[j] = false := by rw [hx, hy]; simpa using hv
          have : B = false := by rw [← hB]; exact eqvL_bad hlt hlt2 hvf
          simp [hv, this]
          exact .free rfl
  · have : B = false := by rw [← hB]; exact eqvL_len hll
    simp [a_slices_EqualFunc_api_Phi_api_Phi_api_Phi_api_Phi, show ¬ ((la.length : Int) = lb.length) by omega, this]
    exact .free rfl

theorem p_EqualFunc_Block {a b : SK} {la lb : List BlkV} {g : FuncId} {r : BlkV → BlkV → Bool} (hl : la.length ≤ maxLen) (hg : ∀ x ∈ la, ∀ y ∈ lb, PCall Tryz.prog g [.agg x.cells, .agg y.cells] (bl (r x y))) :
    PCall Tryz.prog 31 [.sl a 4 (blkCells la), .sl b 4 (blkCells lb), .fn (.func g) [] []] (bl (eqvL r la lb)) := by
  have hm : maxLen = 9223372036854775807 := rfl
  refine PCall.of fun N => acallF mixed c_slices_EqualFunc_api_Block_api_Block_api_Block_api_Block (by simp) fun hF => ?_
  obtain ⟨B, hB⟩ : ∃ B, eqvL r la lb = B := ⟨_, rfl⟩
  rw [hB]
  by_cases hll : la.length = lb.length
  · simp [a_slices_EqualFunc_api_Block_api_Block_api_Block_api_Block, hll]
    refine run_loop (fun m s => ∃ j, j ≤ la.length ∧ m = la.length - j ∧ s.A 1 = .sl b 4 (blkCells lb) ∧ s.A 2 = .fn (.func g) [] [] ∧ s.A 15 = .sl a 4 (blkCells la) ∧ s.A 16 = i64 la.length ∧ s.A 17 = i64 j ∧ ∀ i (h : i < la.length) (h2 : i < lb.length), i < j → r la[i] lb[i] = true) la.length ?_ ?_
    · exact ⟨0, by omega, by omega, by simp, by simp, by simp, by simp [hll], by simp, fun i _ _ hi => by omega⟩
    · rintro m A H1 N1 ⟨j, hj, rfl, h1, h2, h15, h16, h17, hok⟩
      simp only at h1 h2 h15 h16 h17
      by_cases hjl : j = la.length
      · subst hjl
        have : B = true := by rw [← hB]; exact eqvL_iff.2 ⟨hll, fun i h h2 => hok i h h2 h⟩
        simp [a_slices_EqualFunc_api_Block_api_Block_api_Block_api_Blockb1, h16, h17, this]
        exact .free rfl
      · have hlt : j < la.length := by omega
        have hlt2 : j < lb.length := by omega
        obtain ⟨x, hx⟩ : ∃ x, la[j] = x := ⟨_, rfl⟩
        obtain ⟨y, hy⟩ : ∃ y, lb[j] = y := ⟨_, rfl⟩
        have hix : aindex 4 (.sl a 4 (blkCells la)) (i64 j) = some (.ip x.cells 0) := aindex_sl (by omega) (by simp [blkCells, hlt, hx])
        have hiy : aindex 4 (.sl b 4 (blkCells lb)) (i64 j) = some (.ip y.cells 0) := aindex_sl (by omega) (by simp [blkCells, hlt2, hy])
        have hsx : splice 0 x.cells [AV.sl .nil 0 [], AV.sl .nil 0 [], AV.sl .nil 0 [], AV.sl .nil 0 []] = x.cells := splice_full (by simp)
        have hsy : splice 0 y.cells [AV.sl .nil 0 [], AV.sl .nil 0 [], AV.sl .nil 0 [], AV.sl .nil 0 []] = y.cells := splice_full (by simp)
        have hc := hg x (by rw [← hx]; exact List.getElem_mem hlt) y (by rw [← hy]; exact List.getElem_mem hlt2)
        simp [a_slices_EqualFunc_api_Block_api_Block_api_Block_api_Blockb1, h1, h2, h15, h16, h17, hlt, hix, hiy, hsx, hsy, show N1 ≠ N1 + 1 by omega]
        refine hc.acall ?_
        by_cases hv : r x y = true
        · simp [hv, h1, h2, h15, h16, h17]
          refine ⟨la.length - (j + 1), by omega, j + 1, by omega, rfl, by rw [wrap_i64 (by omega) (by omega)]; rfl, fun i h h2 hij => ?_⟩
          by_cases hij2 : i = j
          · subst hij2; rw [hx, hy]; exact hv
          · exact hok i h h2 (by omega)
        · have hvf : r la[j] lb[j] = false := by rw [hx, hy]; simpa using hv
          have : B = false := by rw [← hB]; exact eqvL_bad hlt hlt2 hvf
          simp [hv, this]
          exact .free rfl
  · have : B = false := by rw [← hB]; exact eqvL_len hll
    simp [a_slices_EqualFunc_api_Block_api_Block_api_Block_api_Block, show ¬ ((la.length : Int) = lb.length) by omega, this]
    exact .free rfl

theorem p_EqualFunc_Graph {a b : SK} {la lb : List GrV} {g : FuncId} {r : GrV → GrV → Bool} (hl : la.length ≤ maxLen) (hg : ∀ x ∈ la, ∀ y ∈ lb, PCall Tryz.prog g [.agg x.cells, .agg y.cells] (bl (r x y))) :
    PCall Tryz.prog 42 [.sl a 5 (grCells la), .sl b 5 (grCells lb), .fn (.func g) [] []] (bl (eqvL r la lb)) := by
  have hm : maxLen = 9223372036854775807 := rfl
  refine PCall.of fun N => acallF mixed c_slices_EqualFunc_api_Graph_api_Graph_api_Graph_api_Graph (by simp) fun hF => ?_
  obtain ⟨B, hB⟩ : ∃ B, eqvL r la lb = B := ⟨_, rfl⟩
  rw [hB]
  by_cases hll : la.length = lb.length
  · simp [a_slices_EqualFunc_api_Graph_api_Graph_api_Graph_api_Graph, hll]
    refine run_loop (fun m s => ∃ j, j ≤ la.length ∧ m = la.length - j ∧ s.A 1 = .sl b 5 (grCells lb) ∧ s.A 2 = .fn (.func g) [] [] ∧ s.A 15 = .sl a 5 (grCells la) ∧ s.A 16 = i64 la.length ∧ s.A 17 = i64 j ∧ ∀ i (h : i < la.length) (h2 : i < lb.length), i < j → r la[i] lb[i] = true) la.length ?_ ?_
    · exact ⟨0, by omega, by omega, by simp, by simp, by simp, by simp [hll], by simp, fun i _ _ hi => by omega⟩
    · rintro m A H1 N1 ⟨j, hj, rfl, h1, h2, h15, h16, h17, hok⟩
      simp only at h1 h2 h15 h16 h17
      by_cases hjl : j = la.length
      · subst hjl
        have : B = true := by rw [← hB]; exact eqvL_iff.2 ⟨hll, fun i h h2 => hok i h h2 h⟩
        simp [a_slices_EqualFunc_api_Graph_api_Graph_api_Graph_api_Graphb1, h16, h17, this]
        exact .free rfl
      · have hlt : j < la.length := by omega
        have hlt2 : j < lb.length := by omega
        obtain ⟨x, hx⟩ : ∃ x, la[j] = x := ⟨_, rfl⟩
        obtain ⟨y, hy⟩ : ∃ y, lb[j] = y := ⟨_, rfl⟩
        have hix : aindex 5 (.sl a 5 (grCells la)) (i64 j) = some (.ip x.cells 0) := aindex_sl (by omega) (by simp [grCells, hlt, hx])
        have hiy : aindex 5 (.sl b 5 (grCells lb)) (i64 j) = some (.ip y.cells 0) := aindex_sl (by omega) (by simp [grCells, hlt2, hy])
        have hsx : splice 0 x.cells [AV.lit (Value.string ⟨#[]⟩), AV.lit (Value.bool false), AV.lit (Value.int .i64 0), AV.lit (Value.int .i64 0), AV.sl .nil 0 []] = x.cells := splice_full (by simp)
        have hsy : splice 0 y.cells [AV.lit (Value.string ⟨#[]⟩), AV.lit (Value.bool false), AV.lit (Value.int .i64 0), AV.lit (Value.int .i64 0), AV.sl .nil 0 []] = y.cells := splice_full (by simp)
        have hc := hg x (by rw [← hx]; exact List.getElem_mem hlt) y (by rw [← hy]; exact List.getElem_mem hlt2)
        simp [a_slices_EqualFunc_api_Graph_api_Graph_api_Graph_api_Graphb1, h1, h2, h15, h16, h17, hlt, hix, hiy, hsx, hsy, show N1 ≠ N1 + 1 by omega]
        refine hc.acall ?_
        by_cases hv : r x y = true
        · simp [hv, h1, h2, h15, h16, h17]
          refine ⟨la.length - (j + 1), by omega, j + 1, by omega, rfl, by rw [wrap_i64 (by omega) (by omega)]; rfl, fun i h h2 hij => ?_⟩
          by_cases hij2 : i = j
          · subst hij2; rw [hx, hy]; exact hv
          · exact hok i h h2 (by omega)
        · have hvf : r la[j] lb[j] = false := by rw [hx, hy]; simpa using hv
          have : B = false := by rw [← hB]; exact eqvL_bad hlt hlt2 hvf
          simp [hv, this]
          exact .free rfl
  · have : B = false := by rw [← hB]; exact eqvL_len hll
    simp [a_slices_EqualFunc_api_Graph_api_Graph_api_Graph_api_Graph, show ¬ ((la.length : Int) = lb.length) by omega, this]
    exact .free rfl

end Go.Proofs.YtcoepjbipbihfaaGreatDoor
