/- bytes: slices.ContainsFunc, slices.EqualFunc, slices.Equal: the same text for each type (printed by cf.py). -/
import Derived.Test.YtefejpckppabpaaGreatDoorB6
namespace Go.Proofs.YtefejpckppabpaaGreatDoor
set_option linter.unusedSimpArgs false
set_option linter.unusedVariables false
open Go Go.Fw

theorem p_IndexFunc_Op {H : AHeap} {a : AV} {es : List (List AV)} (ha : RdSl H 2 es a) (hs : ∀ x ∈ es, x.length = 2) {g : FuncId} {capt : List AV} {ts : List Bool} (htl : ts.length = es.length) (hl : es.length ≤ maxLen)
    (hg : ∀ (i : Nat) (x : List AV) (b : Bool), es[i]? = some x → ts[i]? = some b → PCall Tryz.prog g ((.agg x) :: capt) (bl b)) (N : Nat) :
    ACall Tryz.prog 58 [a, .fn (.func g) [] capt] H N (fun r H' N' => (∃ n : Int, r = i64 n ∧ (0 ≤ n ↔ ts.any id = true)) ∧ H' = H ∧ N' = N) := by
  have hm : maxLen = 9223372036854775807 := rfl
  refine acall mixed c_slices_IndexFunc_api_Op_api_Op (by simp) ?_
  have hla := ha.len
  simp [a_slices_IndexFunc_api_Op_api_Op, hla, -alen]
  refine run_loop (fun m x => ∃ j, j ≤ es.length ∧ m = es.length - j ∧ x.A 0 = a ∧ x.A 1 = .fn (.func g) [] capt ∧ x.A 7 = i64 es.length ∧ x.A 8 = i64 j ∧ x.H = H ∧ x.N = N ∧ (ts.take j).any id = false) es.length ?_ ?_
  · exact ⟨0, by omega, by omega, by simp, by simp, by simp, by simp, by simp, by simp, by simp⟩
  · rintro m A H1 N1 ⟨j, hj, rfl, h0, h1, h7, h8, rfl, rfl, hn⟩
    simp only at h0 h1 h7 h8
    by_cases hjl : j = es.length
    · subst hjl
      rw [← htl, List.take_length] at hn
      simp [a_slices_IndexFunc_api_Op_api_Opb1, h7, h8, hn]
      simpa using hn
    · have hlt : j < es.length := by omega
      obtain ⟨p, hp, pp⟩ := ha.at hs (List.getElem?_eq_getElem hlt)
      have hlt2 : j < ts.length := by omega
      have hc := hg j es[j] ts[j] (List.getElem?_eq_getElem hlt) (List.getElem?_eq_getElem hlt2)
      have lp : aload H1 true 2 p = some (.agg es[j]) := by
        have := pp.load
        rw [hs _ (List.getElem_mem hlt)] at this
        exact this
      simp [a_slices_IndexFunc_api_Op_api_Opb1, h0, h1, h7, h8, hlt, hp, lp, -aload]
      refine hc.acall ?_
      by_cases hv : ts[j] = true
      · simp [hv]
        exact hv ▸ List.getElem_mem hlt2
      · simp [hv, h0, h1, h7, h8]
        refine ⟨es.length - (j + 1), by omega, j + 1, by omega, rfl, by rw [wrap_i64 (by omega) (by omega)]; rfl, ?_⟩
        have : (ts.take (j + 1)).any id = false := by rw [take_next hlt2, List.any_append, hn]; simp [hv]
        simpa using this

theorem p_ContainsFunc_Op {H : AHeap} {a : AV} {es : List (List AV)} (ha : RdSl H 2 es a) (hs : ∀ x ∈ es, x.length = 2) {g : FuncId} {capt : List AV} {ts : List Bool} (htl : ts.length = es.length) (hl : es.length ≤ maxLen)
    (hg : ∀ (i : Nat) (x : List AV) (b : Bool), es[i]? = some x → ts[i]? = some b → PCall Tryz.prog g ((.agg x) :: capt) (bl b)) (N : Nat) :
    ACall Tryz.prog 22 [a, .fn (.func g) [] capt] H N (fun r H' N' => r = bl (ts.any id) ∧ H' = H ∧ N' = N) := by
  refine acall mixed c_slices_ContainsFunc_api_Op_api_Op (by simp) ?_
  simp [a_slices_ContainsFunc_api_Op_api_Op]
  refine (p_IndexFunc_Op ha hs htl hl hg N).mono ?_
  rintro r H1 N1 ⟨⟨n, rfl, hn⟩, rfl, rfl⟩
  have : decide (0 ≤ n) = ts.any id := by
    cases h : ts.any id <;> simp [hn, h]
  simp [this]

theorem p_EqualFunc_Unit {a b : SK} {la lb : List UnitV} {g : FuncId} {r : UnitV → UnitV → Bool} (hl : la.length ≤ maxLen) (hg : ∀ x ∈ la, ∀ y ∈ lb, PCall Tryz.prog g [.agg x.cells, .agg y.cells] (bl (r x y))) :
    PCall Tryz.prog 32 [.sl a 6 (unitCells la), .sl b 6 (unitCells lb), .fn (.func g) [] []] (bl (eqvL r la lb)) := by
  have hm : maxLen = 9223372036854775807 := rfl
  refine PCall.of fun N => acallF mixed c_slices_EqualFunc_api_Unit_api_Unit_api_Unit_api_Unit (by simp) fun hF => ?_
  obtain ⟨B, hB⟩ : ∃ B, eqvL r la lb = B := ⟨_, rfl⟩
  rw [hB]
  by_cases hll : la.length = lb.length
  · simp [a_slices_EqualFunc_api_Unit_api_Unit_api_Unit_api_Unit, hll]
    refine run_loop (fun m s => ∃ j, j ≤ la.length ∧ m = la.length - j ∧ s.A 1 = .sl b 6 (unitCells lb) ∧ s.A 2 = .fn (.func g) [] [] ∧ s.A 15 = .sl a 6 (unitCells la) ∧ s.A 16 = i64 la.length ∧ s.A 17 = i64 j ∧ ∀ i (h : i < la.length) (h2 : i < lb.length), i < j → r la[i] lb[i] = true) la.length ?_ ?_
    · exact ⟨0, by omega, by omega, by simp, by simp, by simp, by simp [hll], by simp, fun i _ _ hi => by omega⟩
    · rintro m A H1 N1 ⟨j, hj, rfl, h1, h2, h15, h16, h17, hok⟩
      simp only at h1 h2 h15 h16 h17
      by_cases hjl : j = la.length
      · subst hjl
        have : B = true := by rw [← hB]; exact eqvL_iff.2 ⟨hll, fun i h h2 => hok i h h2 h⟩
        simp [a_slices_EqualFunc_api_Unit_api_Unit_api_Unit_api_Unitb1, h16, h17, this]
        exact .free rfl
      · have hlt : j < la.length := by omega
        have hlt2 : j < lb.length := by omega
        obtain ⟨x, hx⟩ : ∃ x, la[j] = x := ⟨_, rfl⟩
        obtain ⟨y, hy⟩ : ∃ y, lb[j] = y := ⟨_, rfl⟩
        have hix : aindex 6 (.sl a 6 (unitCells la)) (i64 j) = some (.ip x.cells 0) := aindex_sl (by omega) (by simp [unitCells, hlt, hx])
        have hiy : aindex 6 (.sl b 6 (unitCells lb)) (i64 j) = some (.ip y.cells 0) := aindex_sl (by omega) (by simp [unitCells, hlt2, hy])
        have hsx : splice 0 x.cells [AV.lit (Value.string ⟨#[]⟩), AV.lit (Value.bool false), AV.lit (Value.int .i64 0), AV.lit (Value.int .i64 0), AV.lit (Value.int .i64 0), AV.sl .nil 0 []] = x.cells := splice_full (by simp)
        have hsy : splice 0 y.cells [AV.lit (Value.string ⟨#[]⟩), AV.lit (Value.bool false), AV.lit (Value.int .i64 0), AV.lit (Value.int .i64 0), AV.lit (Value.int .i64 0), AV.sl .nil 0 []] = y.cells := splice_full (by simp)
        have hc := hg x (by rw [← hx]; exact List.getElem_mem hlt) y (by rw [← hy]; exact List.getElem_mem hlt2)
        simp [a_slices_EqualFunc_api_Unit_api_Unit_api_Unit_api_Unitb1, h1, h2, h15, h16, h17, hlt, hix, hiy, hsx, hsy, show N1 ≠ N1 + 1 by omega]
        refine hc.acall ?_
        by_cases hv : r x y = true
        · simp [hv, h1, h2, h15, h16, h17]
          refine ⟨la.length - (j + 1), by omega, j + 1, by omega, rfl, by rw [wrap_i64 (by omega) (by omega)]; rfl, fun i h h2 hij => ?_⟩
          by_cases hij2 : i = j
          · subst hij2; rw [hx, hy]; exact hv
          · exact hok i h h2 (by omega)
        · have hvf : r la[j] lb[j] = false := by rw [hx, hy]; simpa using hv
          have : B = false := by rw [← hB]; exact eqvL_bad hlt hlt2 hvf
          simp [hv, this]
          exact .free rfl
  · have : B = false := by rw [← hB]; exact eqvL_len hll
    simp [a_slices_EqualFunc_api_Unit_api_Unit_api_Unit_api_Unit, show ¬ ((la.length : Int) = lb.length) by omega, this]
    exact .free rfl

theorem opE_eqs (x y : OpV) : eqsV [(0, 0), (1, 0)] (.agg x.cells) (.agg y.cells) = some (sameOp x y) := by
  by_cases h2 : x.code = y.code
  · by_cases h3 : x.n = y.n
    · simp [eqsV, aeqs, OpV.cells, akind, keq, sameOp, h2, h3]
    · have h4 : (x.n == y.n) = false := by simpa using h3
      simp [eqsV, aeqs, OpV.cells, akind, keq, sameOp, h2, h3, h4]
  · have h4 : (x.code == y.code) = false := by simpa using h2
    simp [eqsV, aeqs, OpV.cells, akind, keq, sameOp, h2, h4]
theorem p_Equal_Op {H : AHeap} {a b : AV} {la lb : List OpV} (ha : RdSl H 2 (opsCells la) a) (hb : RdSl H 2 (opsCells lb) b) (hl : la.length ≤ maxLen) (N : Nat) :
    ACall Tryz.prog 34 [a, b] H N (fun r H' N' => r = bl (eqvL sameOp la lb) ∧ H' = H ∧ N' = N) := by
  have hm : maxLen = 9223372036854775807 := rfl
  refine acall mixed c_slices_Equal_api_Op_api_Op (by simp) ?_
  have hla := ha.len
  have hlb := hb.len
  rw [opsCells_len] at hla hlb
  by_cases hll : la.length = lb.length
  · simp [a_slices_Equal_api_Op_api_Op, hla, hlb, hll, -alen]
    refine run_loop (fun m s => ∃ j, j ≤ la.length ∧ m = la.length - j ∧ s.A 0 = a ∧ s.A 1 = b ∧ s.A 12 = i64 la.length ∧ s.A 13 = i64 j ∧ s.H = H ∧ s.N = N ∧ ∀ i (h : i < la.length) (h2 : i < lb.length), i < j → sameOp la[i] lb[i] = true) la.length ?_ ?_
    · exact ⟨0, by omega, by omega, by simp, by simp, by simp [hll], by simp, by simp, by simp, fun i _ _ hi => by omega⟩
    · rintro m A H1 N1 ⟨j, hj, rfl, h0, h1, h12, h13, rfl, rfl, hok⟩
      simp only at h0 h1 h12 h13
      by_cases hjl : j = la.length
      · subst hjl
        have : eqvL sameOp la lb = true := eqvL_iff.2 ⟨hll, fun i h h2 => hok i h h2 h⟩
        simp [a_slices_Equal_api_Op_api_Opb1, h12, h13, this]
      · have hlt : j < la.length := by omega
        have hlt2 : j < lb.length := by omega
        obtain ⟨p, hp, pp⟩ := ha.at (opsCells_sz la) (by simp [opsCells, hlt] : (opsCells la)[j]? = some la[j].cells)
        obtain ⟨q, hq, qq⟩ := hb.at (opsCells_sz lb) (by simp [opsCells, hlt2] : (opsCells lb)[j]? = some lb[j].cells)
        have lp : aload H1 true 2 p = some (.agg la[j].cells) := pp.load
        have lq : aload H1 true 2 q = some (.agg lb[j].cells) := qq.load
        have he := opE_eqs la[j] lb[j]
        by_cases hv : sameOp la[j] lb[j] = true
        · simp [a_slices_Equal_api_Op_api_Opb1, h0, h1, h12, h13, hlt, hp, hq, lp, lq, he, hv, -aload, -eqsV]
          refine ⟨la.length - (j + 1), by omega, j + 1, by omega, rfl, by rw [wrap_i64 (by omega) (by omega)]; rfl, fun i h h2 hij => ?_⟩
          by_cases hij2 : i = j
          · subst hij2; exact hv
          · exact hok i h h2 (by omega)
        · have hvf : sameOp la[j] lb[j] = false := by simpa using hv
          have : eqvL sameOp la lb = false := eqvL_bad hlt hlt2 hvf
          simp [a_slices_Equal_api_Op_api_Opb1, h0, h1, h12, h13, hlt, hp, hq, lp, lq, he, hvf, this, -aload, -eqsV]
  · have : eqvL sameOp la lb = false := eqvL_len hll
    simp [a_slices_Equal_api_Op_api_Op, hla, hlb, show ¬ ((la.length : Int) = lb.length) by omega, this, -alen]

end Go.Proofs.YtefejpckppabpaaGreatDoor

/- bytes: what operations name and pop, by the program. -/
namespace Go.Proofs.YtefejpckppabpaaGreatDoor
set_option linter.unusedSimpArgs false
set_option linter.unusedVariables false
open Go Go.Fw
theorem gptr_bops : gptr 0 = .ip bopCells 0 := rfl
theorem bopCells_len : bopCells.length = 45 := rfl
theorem bn1 : bopCells[3]? = some (i64 1) := rfl
theorem bn2 : bopCells[6]? = some (i64 2) := rfl
theorem bn3 : bopCells[9]? = some (i64 2) := rfl
theorem bn4 : bopCells[12]? = some (i64 3) := rfl
theorem bn5 : bopCells[15]? = some (i64 4) := rfl
theorem bn6 : bopCells[18]? = some (i64 5) := rfl
theorem bn7 : bopCells[21]? = some (i64 5) := rfl
theorem bn8 : bopCells[24]? = some (i64 6) := rfl
theorem bn9 : bopCells[27]? = some (i64 6) := rfl
theorem bn10 : bopCells[30]? = some (i64 0) := rfl
theorem bn11 : bopCells[33]? = some (i64 7) := rfl
theorem bn12 : bopCells[36]? = some (i64 8) := rfl
theorem bn13 : bopCells[39]? = some (i64 8) := rfl
theorem bn14 : bopCells[42]? = some (i64 0) := rfl
theorem bp1 : bopCells[4]? = some (i64 0) := rfl
theorem bp2 : bopCells[7]? = some (i64 0) := rfl
theorem bp3 : bopCells[10]? = some (i64 1) := rfl
theorem bp4 : bopCells[13]? = some (i64 1) := rfl
theorem bp5 : bopCells[16]? = some (i64 2) := rfl
theorem bp6 : bopCells[19]? = some (i64 1) := rfl
theorem bp7 : bopCells[22]? = some (i64 2) := rfl
theorem bp8 : bopCells[25]? = some (i64 0) := rfl
theorem bp9 : bopCells[28]? = some (i64 0) := rfl
theorem bp10 : bopCells[31]? = some (i64 1) := rfl
theorem bp12 : bopCells[37]? = some (i64 0) := rfl
theorem bp13 : bopCells[40]? = some (i64 1) := rfl
theorem bp14 : bopCells[43]? = some (i64 1) := rfl
theorem bu1 : bopCells[5]? = some (i64 1) := rfl
theorem bu2 : bopCells[8]? = some (i64 1) := rfl
theorem bu3 : bopCells[11]? = some (i64 0) := rfl
theorem bu4 : bopCells[14]? = some (i64 1) := rfl
theorem bu5 : bopCells[17]? = some (i64 1) := rfl
theorem bu6 : bopCells[20]? = some (i64 1) := rfl
theorem bu7 : bopCells[23]? = some (i64 0) := rfl
theorem bu8 : bopCells[26]? = some (i64 0) := rfl
theorem bu9 : bopCells[29]? = some (i64 0) := rfl
theorem bu10 : bopCells[32]? = some (i64 0) := rfl
theorem bu11 : bopCells[35]? = some (i64 1) := rfl
theorem bu12 : bopCells[38]? = some (i64 0) := rfl
theorem bu13 : bopCells[41]? = some (i64 0) := rfl
theorem bu14 : bopCells[44]? = some (i64 0) := rfl
def isOp (o : OpV) : Prop := 1 ≤ o.code ∧ o.code < 15
theorem isOp_cases {o : OpV} (h : isOp o) : o.code = 1 ∨ o.code = 2 ∨ o.code = 3 ∨ o.code = 4 ∨ o.code = 5 ∨ o.code = 6 ∨ o.code = 7 ∨ o.code = 8 ∨ o.code = 9 ∨ o.code = 10 ∨ o.code = 11 ∨ o.code = 12 ∨ o.code = 13 ∨ o.code = 14 := by
  unfold isOp at h; omega
theorem namB_op {m : ImgV} {u : UnitV} {o : OpV} (h : namB m u o = true) : isOp o := by
  unfold isOp
  by_cases hc : 1 ≤ o.code ∧ o.code < 15
  · exact hc
  · exfalso
    unfold namB at h
    rw [if_neg (by omega), if_neg (by omega), if_neg (by omega), if_neg (by omega), if_neg (by omega), if_neg (by omega), if_neg (by omega), if_neg (by omega), if_neg (by omega)] at h
    cases h

theorem p_known {c : Int} (h0 : 0 ≤ c) (h1 : c < 256) : PCall Tryz.prog 24 [u8 c] (bl (decide (1 ≤ c ∧ c < 15))) := by
  refine PCall.of fun N => acall mixed c_bytes_known (by simp) ?_
  have hw : IntKind.i64.wrap c = c := wrap_i64 (by omega) (by omega)
  by_cases h2 : 1 ≤ c
  · by_cases h3 : c < 15
    · simp [a_bytes_known, h2, h3, hw]; exact .free rfl
    · simp [a_bytes_known, h2, h3, hw]; exact .free rfl
  · simp [a_bytes_known, h2]; exact .free rfl

theorem p_names1 (o : OpV) (n : Int) : PCall Tryz.prog 59 [i64 n, .ip o.cells 0] (bl (within o.n n)) := by
  refine PCall.of fun N => acall mixed c_bytes_names_1 (by simp) ?_
  by_cases h2 : 0 ≤ o.n
  · by_cases h3 : o.n < n
    · simp [a_bytes_names_1, h2, h3, within]; exact .free rfl
    · simp [a_bytes_names_1, h2, h3, within]; exact .free rfl
  · simp [a_bytes_names_1, h2, within]; exact .free rfl

theorem p_names {m : ImgV} {u : UnitV} {o : OpV} (h : isOp o) : PCall Tryz.prog 25 [.agg m.cells, .agg u.cells, .agg o.cells] (bl (namB m u o)) := by
  refine PCall.of fun N => acall mixed c_bytes_names (by simp) ?_
  obtain ⟨B, hB⟩ : ∃ B, namB m u o = B := ⟨_, rfl⟩
  rw [hB]
  unfold namB at hB
  have hc := isOp_cases h
  have lit : ∀ n : Int, within o.n n = B → PCall Tryz.prog 59 [i64 n, .ip o.cells 0] (bl B) := fun n hn => by rw [← hn]; exact p_names1 o n
  rcases hc with hc | hc | hc | hc | hc | hc | hc | hc | hc | hc | hc | hc | hc | hc
  · simp [hc] at hB
    subst hB
    simp [a_bytes_names, hc, gptr_bops, bopCells_len, bn1]
    exact .free rfl
  · simp [hc] at hB
    simp [a_bytes_names, hc, gptr_bops, bopCells_len, bn2]
    refine (lit _ hB).acall ?_
    simp
    exact .free rfl
  · simp [hc] at hB
    simp [a_bytes_names, hc, gptr_bops, bopCells_len, bn3]
    refine (lit _ hB).acall ?_
    simp
    exact .free rfl
  · simp [hc] at hB
    by_cases h5 : o.n = 5
    · simp [a_bytes_names, hc, gptr_bops, bopCells_len, bn4, h5, ← hB]; exact .free rfl
    · simp [a_bytes_names, hc, gptr_bops, bopCells_len, bn4, h5, ← hB]; exact .free rfl
  · simp [hc] at hB
    by_cases h5 : 7 ≤ o.n
    · simp [a_bytes_names, hc, gptr_bops, bopCells_len, bn5, h5, ← hB]; exact .free rfl
    · simp [a_bytes_names, hc, gptr_bops, bopCells_len, bn5, h5, ← hB]; exact .free rfl
  · simp [hc] at hB
    simp [a_bytes_names, hc, gptr_bops, bopCells_len, bn6]
    refine (lit _ hB).acall ?_
    simp
    exact .free rfl
  · simp [hc] at hB
    simp [a_bytes_names, hc, gptr_bops, bopCells_len, bn7]
    refine (lit _ hB).acall ?_
    simp
    exact .free rfl
  · simp [hc] at hB
    simp [a_bytes_names, hc, gptr_bops, bopCells_len, bn8]
    refine (lit _ hB).acall ?_
    simp
    exact .free rfl
  · simp [hc] at hB
    simp [a_bytes_names, hc, gptr_bops, bopCells_len, bn9]
    refine (lit _ hB).acall ?_
    simp
    exact .free rfl
  · simp [hc] at hB
    simp [a_bytes_names, hc, gptr_bops, bopCells_len, bn10, ← hB]
    exact .free rfl
  · simp only [hc] at hB
    simp at hB
    simp [a_bytes_names, hc, gptr_bops, bopCells_len, bn11]
    refine (p_names1 o m.units.length).acall ?_
    cases hw : within o.n m.units.length with
    | false =>
      rw [hw, Bool.false_and] at hB
      simp [← hB]
      exact .free rfl
    | true =>
      rw [hw, Bool.true_and] at hB
      have hb : 0 ≤ o.n ∧ o.n < m.units.length := by simpa [within] using hw
      obtain ⟨v, hv⟩ : ∃ v, m.units[o.n.toNat]? = some v := ⟨m.units[o.n.toNat]'(by omega), by simp [show o.n.toNat < m.units.length by omega]⟩
      have hix : aindex 6 (.sl m.uk 6 (unitCells m.units)) (i64 o.n) = some (.ip v.cells 0) := aindex_sl hb.1 (unitCells_at hv)
      rw [hv] at hB
      simp [hix, ← hB]
      exact .free rfl
  · simp [hc] at hB
    simp [a_bytes_names, hc, gptr_bops, bopCells_len, bn12]
    refine (lit _ hB).acall ?_
    simp
    exact .free rfl
  · simp [hc] at hB
    simp [a_bytes_names, hc, gptr_bops, bopCells_len, bn13]
    refine (lit _ hB).acall ?_
    simp
    exact .free rfl
  · simp [hc] at hB
    simp [a_bytes_names, hc, gptr_bops, bopCells_len, bn14, ← hB]
    exact .free rfl

theorem p_pops {m : ImgV} {o : OpV} (h : isOp o) (hu : o.code = 11 → within o.n m.units.length = true) : PCall Tryz.prog 61 [.agg m.cells, .agg o.cells] (i64 (popB m o)) := by
  refine PCall.of fun N => acall mixed c_bytes_pops (by simp) ?_
  have hc := isOp_cases h
  rcases hc with hc | hc | hc | hc | hc | hc | hc | hc | hc | hc | hc | hc | hc | hc
  · simp [a_bytes_pops, hc, gptr_bops, bopCells_len, bp1, popB]; exact .free rfl
  · simp [a_bytes_pops, hc, gptr_bops, bopCells_len, bp2, popB]; exact .free rfl
  · simp [a_bytes_pops, hc, gptr_bops, bopCells_len, bp3, popB]; exact .free rfl
  · simp [a_bytes_pops, hc, gptr_bops, bopCells_len, bp4, popB]; exact .free rfl
  · simp [a_bytes_pops, hc, gptr_bops, bopCells_len, bp5, popB]; exact .free rfl
  · simp [a_bytes_pops, hc, gptr_bops, bopCells_len, bp6, popB]; exact .free rfl
  · simp [a_bytes_pops, hc, gptr_bops, bopCells_len, bp7, popB]; exact .free rfl
  · simp [a_bytes_pops, hc, gptr_bops, bopCells_len, bp8, popB]; exact .free rfl
  · simp [a_bytes_pops, hc, gptr_bops, bopCells_len, bp9, popB]; exact .free rfl
  · simp [a_bytes_pops, hc, gptr_bops, bopCells_len, bp10, popB]; exact .free rfl
  · have hb : 0 ≤ o.n ∧ o.n < m.units.length := by simpa [within] using hu hc
    obtain ⟨v, hv⟩ : ∃ v, m.units[o.n.toNat]? = some v := ⟨m.units[o.n.toNat]'(by omega), by simp [show o.n.toNat < m.units.length by omega]⟩
    have hix : aindex 6 (.sl m.uk 6 (unitCells m.units)) (i64 o.n) = some (.ip v.cells 0) := aindex_sl hb.1 (unitCells_at hv)
    have hp : popB m o = v.params := by unfold popB; rw [if_pos hc, hv]
    simp [a_bytes_pops, hc, hix, hp]; exact .free rfl
  · simp [a_bytes_pops, hc, gptr_bops, bopCells_len, bp12, popB]; exact .free rfl
  · simp [a_bytes_pops, hc, gptr_bops, bopCells_len, bp13, popB]; exact .free rfl
  · simp [a_bytes_pops, hc, gptr_bops, bopCells_len, bp14, popB]; exact .free rfl
end Go.Proofs.YtefejpckppabpaaGreatDoor

/- bytes: heights, by the program. -/
namespace Go.Proofs.YtefejpckppabpaaGreatDoor
set_option linter.unusedSimpArgs false
set_option linter.unusedVariables false
open Go Go.Fw

/-- What is known of a Unit whose heights are reckoned. -/
structure HtOk (m : ImgV) (u : UnitV) : Prop where
  fit : fitU m u = true
  par : ∀ v ∈ m.units, 0 ≤ v.params ∧ v.params ≤ 8
theorem HtOk.len {m : ImgV} {u : UnitV} (h : HtOk m u) : 1 ≤ u.ops.length ∧ u.ops.length ≤ 524288 ∧ 0 ≤ u.depth ∧ u.depth ≤ 65536 := by
  have := h.fit
  simp only [fitU, headU, Bool.and_eq_true, decide_eq_true_eq] at this
  obtain ⟨⟨_, _, h3, h4, h5, h6⟩, _⟩ := this
  exact ⟨h5, h6, h3, h4⟩
theorem HtOk.nam {m : ImgV} {u : UnitV} (h : HtOk m u) {a : Nat} (ha : a < u.ops.length) : namB m u u.ops[a] = true := by
  have := h.fit
  simp only [fitU, Bool.and_eq_true, zall_iff] at this
  exact this.2.1 a ha
theorem opAt_eq {u : UnitV} {a : Nat} (ha : a < u.ops.length) : opAt u a = u.ops[a] := by
  unfold opAt; rw [List.getD_eq_getElem?_getD, List.getElem?_eq_getElem ha]; rfl
theorem HtOk.call {m : ImgV} {u : UnitV} (h : HtOk m u) {a : Nat} (ha : a < u.ops.length) (hc : u.ops[a].code = 11) : within u.ops[a].n m.units.length = true := by
  have := h.nam ha
  unfold namB at this
  simp only [hc] at this
  simp at this
  exact this.1
theorem HtOk.goal {m : ImgV} {u : UnitV} (h : HtOk m u) {a : Nat} (ha : a < u.ops.length) (hc : u.ops[a].code = 12 ∨ u.ops[a].code = 13) : 0 ≤ u.ops[a].n ∧ u.ops[a].n < u.ops.length := by
  have := h.nam ha
  unfold namB at this
  rcases hc with hc | hc <;> (simp only [hc] at this; simpa [within] using this)
theorem HtOk.pop {m : ImgV} {u : UnitV} (h : HtOk m u) {a : Nat} (ha : a < u.ops.length) : 0 ≤ popB m u.ops[a] ∧ popB m u.ops[a] ≤ 8 := by
  unfold popB
  split
  · rename_i hc
    have hb : 0 ≤ u.ops[a].n ∧ u.ops[a].n < m.units.length := by simpa [within] using h.call ha hc
    have hv : m.units[u.ops[a].n.toNat]? = some (m.units[u.ops[a].n.toNat]'(by omega)) := List.getElem?_eq_getElem (by omega)
    rw [hv]
    exact h.par _ (List.getElem_mem _)
  · split
    · omega
    · split <;> omega
theorem pushB_le (o : OpV) : pushB o ≤ 1 := by unfold pushB; split <;> omega

theorem bopsAt {n : Nat} (h : n < 15) : n * 3 + 3 ≤ bopCells.length ∧ bopCells[n * 3]? = some (i64 (bopRows.getD n zBRow).n) ∧ bopCells[n * 3 + 2]? = some (i64 (bopRows.getD n zBRow).pushes) := by
  have : n = 0 ∨ n = 1 ∨ n = 2 ∨ n = 3 ∨ n = 4 ∨ n = 5 ∨ n = 6 ∨ n = 7 ∨ n = 8 ∨ n = 9 ∨ n = 10 ∨ n = 11 ∨ n = 12 ∨ n = 13 ∨ n = 14 := by omega
  rcases this with rfl | rfl | rfl | rfl | rfl | rfl | rfl | rfl | rfl | rfl | rfl | rfl | rfl | rfl | rfl <;> exact ⟨by decide, rfl, rfl⟩
theorem bop_push {o : OpV} (h : isOp o) : (bopRows.getD o.code.toNat zBRow).pushes = pushB o := by
  rcases isOp_cases h with hc | hc | hc | hc | hc | hc | hc | hc | hc | hc | hc | hc | hc | hc <;> (simp only [pushB, hc]; rfl)
theorem bop_goal {o : OpV} (h : isOp o) : (bopRows.getD o.code.toNat zBRow).n = 8 ↔ (o.code = 12 ∨ o.code = 13) := by
  rcases isOp_cases h with hc | hc | hc | hc | hc | hc | hc | hc | hc | hc | hc | hc | hc | hc <;> (rw [hc]; decide)

/-- The next ones, as numbers. -/
def nx1 (o : OpV) (a : Nat) : List Int := if o.code = 12 ∨ o.code = 14 then [] else [(a : Int) + 1]
def nx2 (o : OpV) : List Int := if o.code = 12 ∨ o.code = 13 then [o.n] else []
theorem nxB_eq {o : OpV} {a : Nat} (h : (o.code = 12 ∨ o.code = 13) → 0 ≤ o.n) : (nxB o a).map (fun b : Nat => (b : Int)) = nx1 o a ++ nx2 o := by
  unfold nxB nx1 nx2
  rw [List.map_append]
  congr 1
  · split <;> simp
  · split
    · rename_i hc; have := h hc; simp; omega
    · rfl

section
variable {o : OpV} {a k : Nat} {A : Nat → AV} {H : AHeap} {N N0 : Nat} {fs : List Fr} {Q : Post} {v : AV} {l : List Int}
theorem h_n1 (ho : isOp o) (ha : a < 1000000) (hF : Fresh H N) (h9 : A 9 = .mp k 0) (hk0 : H k = some (.blk o.cells)) (h8 : A 8 = i64 a) (h11 : A 11 = .sl .nil 0 [])
    (hk : ∀ A' H' N' v, (∀ t ∈ [2, 3, 6, 7, 8, 9, 10], A' t = A t) → A' 11 = v → OwnT H' N v (nx1 o a) → (∀ j, j < N → H' j = H j) → Fresh H' N' → N ≤ N' → onward Tryz.prog fs Q .normal ⟨A', H', N'⟩) : run Tryz.prog a_h_n1 fs Q ⟨A, H, N⟩ := by
  have hw : IntKind.i64.wrap ((a : Int) + 1) = (a : Int) + 1 := wrap_i64 (by omega) (by omega)
  obtain ⟨H', happ, hat, hold, hF'⟩ := own_push (H := H) (N := N) (N0 := N) (v := .sl .nil 0 []) (l := []) (.inl ⟨rfl, rfl⟩) hF (by simp) ((a : Int) + 1)
  by_cases h12 : o.code = 12
  · simp [a_h_n1, h9, hk0, h12]
    refine hk _ _ _ (.sl .nil 0 []) ?_ ?_ (.inl ⟨by simp [nx1, h12], rfl⟩) (fun _ _ => rfl) hF (Nat.le_refl _)
    · simp
    · simp [h11]
  · by_cases h14 : o.code = 14
    · simp [a_h_n1, h9, hk0, h14]
      refine hk _ _ _ (.sl .nil 0 []) ?_ ?_ (.inl ⟨by simp [nx1, h14], rfl⟩) (fun _ _ => rfl) hF (Nat.le_refl _)
      · simp
      · simp [h11]
    · simp [a_h_n1, h9, hk0, h12, h14, h11, h8, hw, happ]
      refine hk _ _ _ (.ms N 0 1 1) ?_ ?_ (.inr ⟨N, [], Nat.le_refl _, by simp [nx1, h12, h14], by simpa [nx1, h12, h14] using hat⟩) (fun j hj => hold j (by omega) (by intro n hn; cases hn)) hF' (by omega)
      · simp
      · simp
theorem h_n2 (ho : isOp o) (hl : l.length ≤ 1) (hF : Fresh H N) (h9 : A 9 = .mp k 0) (hk0 : H k = some (.blk o.cells)) (h11 : A 11 = v) (hv : OwnT H N0 v l) (hN0 : N0 ≤ N)
    (hk : ∀ A' H' N' v', (∀ t ∈ [2, 3, 6, 7, 8, 9, 10], A' t = A t) → A' 11 = v' → OwnT H' N0 v' (l ++ nx2 o) → (∀ j, j < N0 → H' j = H j) → Fresh H' N' → N ≤ N' → onward Tryz.prog fs Q .normal ⟨A', H', N'⟩) : run Tryz.prog a_h_n2 fs Q ⟨A, H, N⟩ := by
  obtain ⟨hb1, hb2, hb3⟩ := bopsAt (n := o.code.toNat) (by unfold isOp at ho; omega)
  obtain ⟨H', happ, hat, hold, hF'⟩ := own_push hv hF (by omega) o.n
  have hg := bop_goal ho
  have h0 : 0 ≤ o.code := by unfold isOp at ho; omega
  have h15 : o.code < 15 := by unfold isOp at ho; omega
  by_cases hc : o.code = 12 ∨ o.code = 13
  · have hg8 : (bopRows[o.code.toNat]?.getD zBRow).n = 8 := by rw [← List.getD_eq_getElem?_getD]; exact hg.2 hc
    simp [a_h_n2, h9, hk0, gptr_bops, h0, h15, hb1, hb2, hg8, h11, happ]
    refine hk _ _ _ (.ms N 0 (l.length + 1) 1) ?_ ?_ (.inr ⟨N, [], hN0, by simp [nx2, hc], by simpa [nx2, hc] using hat⟩) (fun j hj => hold j (by omega) (by
      intro n hn
      have := (hv.lt hF j n hn).2
      omega)) hF' (by omega)
    · simp
    · simp
  · have hg8 : ¬ (bopRows[o.code.toNat]?.getD zBRow).n = 8 := fun h => hc (hg.1 (by rw [List.getD_eq_getElem?_getD]; exact h))
    simp [a_h_n2, h9, hk0, gptr_bops, h0, h15, hb1, hb2, hg8]
    refine hk _ _ _ v ?_ ?_ (by rw [show nx2 o = [] from if_neg hc, List.append_nil]; exact hv) (fun _ _ => rfl) hF (Nat.le_refl _)
    · simp
    · simp [h11]
end
end Go.Proofs.YtefejpckppabpaaGreatDoor

/- bytes: heights, by the program: the walk. -/
namespace Go.Proofs.YtefejpckppabpaaGreatDoor
set_option linter.unusedSimpArgs false
set_option linter.unusedVariables false
open Go Go.Fw
theorem map_set_i64 {l : List Int} {b : Nat} {w : Int} : (l.map i64).set b (i64 w) = (l.set b w).map i64 := by
  rw [List.map_set]
/-- Heights and what waits, in memory. -/
structure HtS (oo : Nat) (out todo : List Int) (v : AV) (H : AHeap) (N : Nat) : Prop where
  at_ : H oo = some (.blk (out.map i64))
  own : OwnT H (oo + 1) v todo
  F : Fresh H N
  lt : oo + 1 ≤ N

section
variable {m : ImgV} {u : UnitV} {oo : Nat} {A : Nat → AV} {H : AHeap} {N : Nat} {fs : List Fr} {Q : Post} {out todo : List Int} {v v11 : AV} {D : Nat → Prop} {a : Nat} {va : Int} {Nb : Nat}

theorem ht_b1 (hO : HtOk m u) (hS : HtS oo out todo v H N) (hP : (stkB m u).PN a va out todo D 0) (ha : a < u.ops.length) (hNb : oo + 1 ≤ Nb) (hx : OwnT H Nb v11 (nx1 u.ops[a] a ++ nx2 u.ops[a])) (hap : ∀ j k k', v = .ms j 0 k 1 → v11 = .ms j 0 k' 1 → False) (hmx : 2 * negs out + todo.length ≤ 2000000)
    (h6 : A 6 = .ms oo 0 u.ops.length 1) (h7 : A 7 = v) (h10 : A 10 = i64 (va - popB m u.ops[a] + pushB u.ops[a])) (h95 : A 95 = v11) (h96 : A 96 = i64 (nx1 u.ops[a] a ++ nx2 u.ops[a]).length) (h97 : A 97 = i64 0)
    (hk : ∀ A' H' N' v' out' todo', (∀ t ∈ [2, 3, 6], A' t = A t) → A' 7 = v' → HtS oo out' todo' v' H' N' → (stkB m u).PW out' todo' (fun x => D x ∨ x = a) → 2 * negs out' + todo'.length ≤ 2 * negs out + todo.length → onward Tryz.prog fs Q (.exit 2) ⟨A', H', N'⟩)
    (hr : (stkB m u).goodB = false → ∀ A' H' N', A' 4 = .sl .nil 0 [] → A' 5 = bl false → onward Tryz.prog fs Q .ret ⟨A', H', N'⟩) : run Tryz.prog (.loop a_bytes_heightsb1) fs Q ⟨A, H, N⟩ := by
  obtain ⟨hl1, hl2, hd1, hd2⟩ := hO.len
  have hk0 := stkB_ok hO.fit
  have hnx : ((stkB m u).nx a).map (fun b : Nat => (b : Int)) = nx1 u.ops[a] a ++ nx2 u.ops[a] := by
    have : (stkB m u).nx a = nxB u.ops[a] a := by simp only [stkB, opAt_eq ha]
    rw [this]
    exact nxB_eq fun hc => (hO.goal ha hc).1
  obtain ⟨NX, hNX⟩ : ∃ NX, nx1 u.ops[a] a ++ nx2 u.ops[a] = NX := ⟨_, rfl⟩
  rw [hNX] at hnx hx h96
  have hpop : (stkB m u).pop a = popB m u.ops[a] := by simp only [stkB, opAt_eq ha]
  have hpush : (stkB m u).push a = pushB u.ops[a] := by simp only [stkB, opAt_eq ha]
  obtain ⟨h', hh⟩ : ∃ h', va - popB m u.ops[a] + pushB u.ops[a] = h' := ⟨_, rfl⟩
  rw [hh] at h10
  have hNXl : NX.length = ((stkB m u).nx a).length := by rw [← hnx, List.length_map]
  have hNXs : NX.length ≤ 2 := by
    rw [← hNX, List.length_append]
    unfold nx1 nx2
    split <;> split <;> simp
  have hat : ∀ i (h : i < NX.length), ∃ b : Nat, NX[i] = (b : Int) ∧ ((stkB m u).nx a)[i]? = some b := fun i h => by
    have h2 : i < ((stkB m u).nx a).length := by omega
    refine ⟨((stkB m u).nx a)[i], ?_, List.getElem?_eq_getElem h2⟩
    have : (((stkB m u).nx a).map (fun b : Nat => (b : Int)))[i]? = NX[i]? := by rw [hnx]
    rw [List.getElem?_map, List.getElem?_eq_getElem h2, List.getElem?_eq_getElem h] at this
    simpa using this.symm
  refine run_loop (fun n s => ∃ i v' out' todo', i ≤ NX.length ∧ n = NX.length - i ∧ (∀ t ∈ [2, 3, 6, 10, 95, 96], s.A t = A t) ∧ s.A 7 = v' ∧ s.A 97 = i64 i ∧ HtS oo out' todo' v' s.H s.N ∧ OwnT s.H Nb v11 NX ∧ (∀ j k k', v' = .ms j 0 k 1 → v11 = .ms j 0 k' 1 → False) ∧ (stkB m u).PN a va out' todo' D i ∧ 2 * negs out' + todo'.length ≤ 2 * negs out + todo.length) NX.length ?_ ?_
  · exact ⟨0, v, out, todo, by omega, by omega, fun _ _ => rfl, h7, h97, hS, hx, hap, hP, Nat.le_refl _⟩
  · rintro n A1 H1 N1 ⟨i, v1, out1, todo1, hi, rfl, hA, e7, e97, hS1, hx1, hap1, hP1, hmu⟩
    simp only at hA e7 e97 hS1 hx1
    have e2 := hA 2 (by simp)
    have e3 := hA 3 (by simp)
    have e6 := hA 6 (by simp)
    have e10 := hA 10 (by simp)
    have e95 := hA 95 (by simp)
    have e96 := hA 96 (by simp)
    by_cases hie : i = NX.length
    · subst hie
      rw [hNXl] at hP1
      simp [a_bytes_heightsb1, e96, h96, e97]
      refine hk _ _ _ v1 out1 todo1 ?_ ?_ hS1 hP1.done hmu
      · simp [e2, e3, e6]
      · simp [e7]
    · have hlt : i < NX.length := by omega
      obtain ⟨b, hb1, hb2⟩ := hat i hlt
      have hbn : b < u.ops.length := hk0.nx a ha b (List.mem_of_getElem? hb2)
      have hbo : b < out1.length := by rw [hP1.way.len]; exact hbn
      obtain ⟨w, hw⟩ : ∃ w, out1[b] = w := ⟨_, rfl⟩
      have hw1 : out1[b]? = some w := by rw [List.getElem?_eq_getElem hbo, hw]
      obtain ⟨p, hp, pp⟩ := hx1.rd.at (intCells_sz _) (intCells_at hlt)
      have lp := pp.one
      rw [hb1] at lp
      have hwi : IntKind.i64.wrap ((i : Int) + 1) = ((i + 1 : Nat) : Int) := by rw [wrap_i64 (by omega) (by omega)]; rfl
      have hix : aindex 1 (.ms oo 0 u.ops.length 1) (i64 (b : Nat)) = some (.mp oo b) := by simp [aindex, hbn]
      have hld : aload H1 false 1 (.mp oo b) = some (i64 w) := by simp [aload, apart, hS1.at_, hw1]
      by_cases hw0 : 0 ≤ w
      · have hwn : ¬ w < 0 := by omega
        by_cases hwe : w = h'
        · have hP2 := hP1.same hb2 (by rw [hw1, hwe, hpop, hpush, hh])
          subst hwe
          simp [a_bytes_heightsb1, e6, h6, e95, h95, e96, h96, e97, hlt, hp, lp, hix, hld, hw0, hwn, e10, h10, hwi, e7, e2, e3, -aload]
          refine ⟨NX.length - (i + 1), by omega, i + 1, by omega, rfl, rfl, out1, todo1, hS1, hx1, hap1, hP2, hmu⟩
        · have hbad : (stkB m u).goodB = false := hP1.bad hb2 hw1 hw0 (by rw [hpop, hpush, hh]; exact hwe)
          simp [a_bytes_heightsb1, e6, h6, e95, h95, e96, h96, e97, hlt, hp, lp, hix, hld, hw0, e10, h10, hwe, -aload]
          exact hr hbad _ _ _ (by simp) (by simp)
      · have hwn : w < 0 := by omega
        have hP2 := hP1.push hk0 hb2 hw1 hwn
        rw [hpop, hpush, hh] at hP2
        have hh0 : 0 ≤ h' := by
          have h1 := hP1.fit
          have h2 := hk0.push a
          rw [hpush] at h2
          have h3 := h1.1
          rw [hpop] at h3
          omega
        have hneg := negs_set hw1 hwn hh0
        have hvlt := fun j k hv => hS1.own.lt hS1.F j k hv
        have hx1lt := fun j k hv => hx1.lt hS1.F j k hv
        have hoN : oo < N1 := hS1.F.lt hS1.at_
        have hS2 : OwnT (H1.set oo (.blk ((out1.set b h').map i64))) (oo + 1) v1 todo1 := hS1.own.keep fun j k hv => by
          have := (hvlt j k hv).2
          simp only [AHeap.set]; rw [if_neg (by omega)]
        have hF2 : Fresh (H1.set oo (.blk ((out1.set b h').map i64))) N1 := fresh_rewr hS1.F hS1.at_
        have htl : todo1.length ≤ 10000000 := by omega
        obtain ⟨H3, happ, hat3, hold3, hF3⟩ := own_push hS2 hF2 htl (b : Int)
        rw [← map_set_i64] at happ
        have hst : astore H1 1 (.mp oo b) (i64 h') = some (H1.set oo (.blk ((out1.map i64).set b (i64 h')))) := by
          have hbm : b + 1 ≤ (out1.map i64).length := by simp; omega
          simp [astore, hS1.at_, hbm]
          omega
        simp [a_bytes_heightsb1, e6, h6, e95, h95, e96, h96, e97, hlt, hp, lp, hix, hld, hw0, hwn, e10, h10, hwi, e7, e2, e3, hst, happ, -aload, -astore]
        refine ⟨NX.length - (i + 1), by omega, i + 1, by omega, rfl, rfl, out1.set b h', todo1 ++ [(b : Int)], ⟨?_, ?_, hF3, by have := hS1.lt; omega⟩, ?_, ?_, hP2, ?_⟩
        · rw [hold3 oo (by omega) (fun k hv => by have := (hvlt oo k hv).2; omega)]
          simp [AHeap.set]
        · exact .inr ⟨N1, [], by have := hS1.lt; omega, by simp, by simpa using hat3⟩
        · refine hx1.keep fun j k hv => ?_
          have h1 := hx1lt j k hv
          rw [hold3 j (by omega) (fun k' hv1 => hap1 j k' k hv1 hv)]
          simp only [AHeap.set]; rw [if_neg (by omega)]
        · intro j k k' hj hk2 hv'
          subst hj
          have := hx1lt _ k' hv'
          omega
        · rw [List.length_append, List.length_singleton]; omega

theorem h_c1 {h : Int} (h3 : A 3 = .ip u.cells 0) (h6 : A 6 = .ms oo 0 u.ops.length 1) (h8 : A 8 = i64 a) (h10 : A 10 = i64 h) (ha : a < u.ops.length) (hl : aload H false 1 (.mp oo a) = some (i64 va))
    (hk : ¬ h < 0 → ¬ u.depth < va → ∀ A', (∀ t ∈ [2, 3, 6, 7, 8, 9, 10], A' t = A t) → onward Tryz.prog fs Q .normal ⟨A', H, N⟩)
    (hr : h < 0 ∨ u.depth < va → ∀ A', A' 4 = .sl .nil 0 [] → A' 5 = bl false → onward Tryz.prog fs Q .ret ⟨A', H, N⟩) : run Tryz.prog a_h_c1 fs Q ⟨A, H, N⟩ := by
  have hix : aindex 1 (.ms oo 0 u.ops.length 1) (i64 (a : Nat)) = some (.mp oo a) := by simp [aindex, ha]
  by_cases c1 : h < 0
  · simp [a_h_c1, h10, c1, aload_ip, -aload]
    exact hr (.inl c1) _ (by simp) (by simp)
  · by_cases c2 : u.depth < va
    · simp [a_h_c1, h10, c1, h3, h6, h8, hix, hl, c2, aload_ip, -aload]
      exact hr (.inr c2) _ (by simp) (by simp)
    · simp [a_h_c1, h10, c1, h3, h6, h8, hix, hl, c2, aload_ip, -aload]
      refine hk c1 c2 _ ?_
      simp
theorem h_c2 {h : Int} (h3 : A 3 = .ip u.cells 0) (h10 : A 10 = i64 h)
    (hk : ¬ u.depth < h → ∀ A', (∀ t ∈ [2, 3, 6, 7, 8, 9, 10], A' t = A t) → onward Tryz.prog fs Q .normal ⟨A', H, N⟩)
    (hr : u.depth < h → ∀ A', A' 4 = .sl .nil 0 [] → A' 5 = bl false → onward Tryz.prog fs Q .ret ⟨A', H, N⟩) : run Tryz.prog a_h_c2 fs Q ⟨A, H, N⟩ := by
  by_cases c2 : u.depth < h
  · simp [a_h_c2, h10, h3, c2]
    exact hr c2 _ (by simp) (by simp)
  · simp [a_h_c2, h10, h3, c2]
    refine hk c2 _ ?_
    simp

/-- One operation that waits is gone through. -/
theorem ht_b2 (hO : HtOk m u) (hS : HtS oo out todo v H N) (hP : (stkB m u).PW out todo D) (hmx : 2 * negs out + todo.length ≤ 1100000) (h2 : A 2 = .ip m.cells 0) (h3 : A 3 = .ip u.cells 0) (h6 : A 6 = .ms oo 0 u.ops.length 1) (h7 : A 7 = v)
    (hk : (stkB m u).goodB = true → ∀ A' H' N', A' 6 = .ms oo 0 u.ops.length 1 → H' oo = some (.blk ((stkB m u).outL.map i64)) → onward Tryz.prog fs Q (.exit 0) ⟨A', H', N'⟩)
    (hr : (stkB m u).goodB = false → ∀ A' H' N', A' 4 = .sl .nil 0 [] → A' 5 = bl false → onward Tryz.prog fs Q .ret ⟨A', H', N'⟩) : run Tryz.prog (.loop a_bytes_heightsb2) fs Q ⟨A, H, N⟩ := by
  obtain ⟨hl1, hl2, hd1, hd2⟩ := hO.len
  have hk0 := stkB_ok hO.fit
  refine run_loop (fun n s => ∃ v' out' todo' D', n = 2 * negs out' + todo'.length ∧ s.A 2 = .ip m.cells 0 ∧ s.A 3 = .ip u.cells 0 ∧ s.A 6 = .ms oo 0 u.ops.length 1 ∧ s.A 7 = v' ∧ HtS oo out' todo' v' s.H s.N ∧ (stkB m u).PW out' todo' D' ∧ 2 * negs out' + todo'.length ≤ 1100000) (2 * negs out + todo.length) ?_ ?_
  · exact ⟨v, out, todo, D, rfl, h2, h3, h6, h7, hS, hP, hmx⟩
  · rintro n A1 H1 N1 ⟨v1, out1, todo1, D1, rfl, e2, e3, e6, e7, hS1, hP1, hmx1⟩
    simp only at e2 e3 e6 e7 hS1
    have hlen := hS1.own.rd.len
    rw [intCells_len] at hlen
    rcases List.eq_nil_or_concat todo1 with hnil | ⟨rest, al, hcc⟩
    · subst hnil
      obtain ⟨hg, ho⟩ := hP1.end_ hk0
      simp [a_bytes_heightsb2, e7, hlen, -alen]
      exact hk hg _ _ _ (by simp [e6]) (by rw [← ho]; exact hS1.at_)
    · rw [List.concat_eq_append] at hcc
      subst hcc
      obtain ⟨a, rfl, han, va, hva, hva0⟩ := hP1.td al (by simp)
      have han' : a < u.ops.length := han
      have hl : (rest ++ [(a : Int)]).length = rest.length + 1 := by simp
      obtain ⟨id, z, hid, rfl, hidH⟩ : ∃ id z, oo + 1 ≤ id ∧ v1 = .ms id 0 (rest.length + 1) 1 ∧ H1 id = some (.blk ((rest ++ [(a : Int)] ++ z).map i64)) := by
        rcases hS1.own with ⟨h, _⟩ | ⟨id, z, h1, h2, h3⟩
        · simp at h
        · exact ⟨id, z, h1, by rw [h2, hl], h3⟩
      obtain ⟨o, ho⟩ : ∃ o, u.ops[a] = o := ⟨_, rfl⟩
      have hop : isOp o := by rw [← ho]; exact namB_op (hO.nam han')
      have hpops := p_pops (m := m) hop (fun hc => by rw [← ho] at hc ⊢; exact hO.call han' hc)
      have hixo : aindex 2 (.sl u.k 2 (opsCells u.ops)) (i64 (a : Nat)) = some (.ip o.cells 0) := aindex_sl (by omega) (by simp [opsCells, han', ho])
      have hixt : aindex 1 (.ms id 0 (rest.length + 1) 1) (i64 (rest.length : Nat)) = some (.mp id rest.length) := by simp [aindex]; omega
      have hldt : ∀ (H' : AHeap), H' id = H1 id → aload H' false 1 (.mp id rest.length) = some (i64 (a : Nat)) := fun H' h => by
        simp [aload, apart, h, hidH]
      have hldt1 := hldt H1 rfl
      have hslc : aslice 1 (.ms id 0 (rest.length + 1) 1) none (some (i64 (rest.length : Nat))) none = some (.ms id 0 rest.length 1) := by
        simp [aslice, bnd]
        try omega
      have hsx : splice 0 o.cells [AV.lit (Value.int .u8 0), AV.lit (Value.int .i64 0)] = o.cells := splice_full (by simp)
      have hixa : aindex 1 (.ms oo 0 u.ops.length 1) (i64 (a : Nat)) = some (.mp oo a) := by simp [aindex, han']
      have hoN : oo < N1 := hS1.F.lt hS1.at_
      have hidN : id < N1 := hS1.F.lt hidH
      have hlda : ∀ (H' : AHeap), H' oo = H1 oo → aload H' false 1 (.mp oo a) = some (i64 va) := fun H' h => by
        simp [aload, apart, h, hS1.at_, hva]
      have hlda1 := hlda (H1.set N1 (.blk o.cells)) (by simp only [AHeap.set]; rw [if_neg (by omega)])
      have hbnd := hP1.way.bound hk0 hd1 hva
      have hpp := hO.pop han'
      rw [ho] at hpp
      have hpu := pushB_le o
      have hpu0 := pushB_pos o
      have hbva : va ≤ u.depth := hbnd.2
      have hwsub : IntKind.i64.wrap (va - popB m o) = va - popB m o := wrap_i64 (by omega) (by omega)
      have hwadd : IntKind.i64.wrap (va - popB m o + pushB o) = va - popB m o + pushB o := wrap_i64 (by omega) (by omega)
      have hwlen : IntKind.i64.wrap (((rest.length + 1 : Nat) : Int) - 1) = (rest.length : Int) := by rw [wrap_i64 (by omega) (by omega)]; omega
      have hwl2 : IntKind.i64.wrap (rest.length : Int) = (rest.length : Int) := by rw [hl] at hmx1; exact wrap_i64 (by omega) (by omega)
      have hpop : (stkB m u).pop a = popB m o := by simp only [stkB, opAt_eq han', ho]
      have hpush : (stkB m u).push a = pushB o := by simp only [stkB, opAt_eq han', ho]
      have badfit : ¬ (stkB m u).fits a va → (stkB m u).goodB = false := fun h => hP1.way.bad_fit hva hva0 h
      have hoT : ∀ H' : AHeap, aload H' true 2 (.ip o.cells 0) = some (.agg o.cells) := fun H' => by simp [aload, apart]
      have hmT : ∀ H' : AHeap, aload H' true 3 (.ip m.cells 0) = some (.agg m.cells) := fun H' => by simp [aload, apart]
      have hbT : aload (H1.set N1 (.blk o.cells)) true 2 (.mp N1 0) = some (.agg o.cells) := by simp [aload, apart]
      unfold a_bytes_heightsb2
      obtain ⟨_, q1⟩ : ∃ c, a_h_c1 = c := ⟨_, rfl⟩
      rw [q1]
      obtain ⟨_, q2⟩ : ∃ c, a_h_c2 = c := ⟨_, rfl⟩
      rw [q2]
      obtain ⟨_, q3⟩ : ∃ c, a_h_n1 = c := ⟨_, rfl⟩
      rw [q3]
      obtain ⟨_, q4⟩ : ∃ c, a_h_n2 = c := ⟨_, rfl⟩
      rw [q4]
      obtain ⟨_, q5⟩ : ∃ c, a_bytes_heightsb1 = c := ⟨_, rfl⟩
      rw [q5]
      simp [e2, e3, e6, e7, hwlen, hwl2, hixt, hldt1, hslc, hixo, hsx, hixa, hlda1, aload_ip, hoT, hmT, hbT, -aload]
      refine ⟨_, hpops, ?_⟩
      simp [hwsub]
      rw [← q1]
      refine h_c1 (u := u) (oo := oo) (a := a) (va := va) (h := va - popB m o) ?_ ?_ ?_ ?_ han' hlda1 (fun c1 c2 A2 hA2 => ?_) (fun hc A2 k4 k5 => ?_)
      · simp [e3]
      · simp [e6]
      · simp
      · simp
      rotate_left
      · have hng : (stkB m u).goodB = false := badfit fun hf => by
          have h1 := hf.1
          have h2 := hf.2.1
          rw [hpop] at h1
          rcases hc with h | h
          · omega
          · simp only [stkB] at h2; omega
        simp
        exact hr hng _ _ _ k4 k5
      have g2 := hA2 2 (by simp)
      have g3 := hA2 3 (by simp)
      have g6 := hA2 6 (by simp)
      have g7 := hA2 7 (by simp)
      have g8 := hA2 8 (by simp)
      have g9 := hA2 9 (by simp)
      have g10 := hA2 10 (by simp)
      simp [e2, e3, e6] at g2 g3 g6 g7 g8 g9 g10
      obtain ⟨hb1, hb2, hb3⟩ := bopsAt (n := o.code.toNat) (by unfold isOp at hop; omega)
      have hbp := bop_push hop
      rw [List.getD_eq_getElem?_getD] at hbp hb3
      rw [hbp] at hb3
      have h0 : 0 ≤ o.code := by unfold isOp at hop; omega
      have h15 : o.code < 15 := by unfold isOp at hop; omega
      have hbC : aload (H1.set N1 (.blk o.cells)) false 1 (.mp N1 0) = some (u8 o.code) := by simp [aload, apart]
      simp [g9, g10, hbC, gptr_bops, h0, h15, hb1, hb3, hwadd, aload_ip, -aload]
      rw [← q2]
      refine h_c2 (u := u) (h := va - popB m o + pushB o) ?_ ?_ (fun c3 A3 hA3 => ?_) (fun hc A3 k4 k5 => ?_)
      · simp [g3]
      · simp
      rotate_left
      · have hng : (stkB m u).goodB = false := badfit fun hf => by
          have h3 := hf.2.2
          rw [hpop, hpush] at h3
          simp only [stkB] at h3; omega
        simp
        exact hr hng _ _ _ k4 k5
      have j2 := hA3 2 (by simp)
      have j3 := hA3 3 (by simp)
      have j6 := hA3 6 (by simp)
      have j7 := hA3 7 (by simp)
      have j8 := hA3 8 (by simp)
      have j9 := hA3 9 (by simp)
      have j10 := hA3 10 (by simp)
      simp [g2, g3, g6, g7, g8, g9] at j2 j3 j6 j7 j8 j9 j10
      simp
      rw [← q3]
      refine h_n1 (o := o) (a := a) (k := N1) hop (by omega) (hS1.F.set _) ?_ ?_ ?_ ?_ (fun A4 H4 N4 w4 hA4 hw4 hO4 hH4 hF4 hN4 => ?_)
      · simp [j9]
      · simp
      · simp [j8]
      · simp
      have l2 := hA4 2 (by simp)
      have l3 := hA4 3 (by simp)
      have l6 := hA4 6 (by simp)
      have l7 := hA4 7 (by simp)
      have l8 := hA4 8 (by simp)
      have l9 := hA4 9 (by simp)
      have l10 := hA4 10 (by simp)
      simp [j2, j3, j6, j7, j8, j9, j10] at l2 l3 l6 l7 l8 l9 l10
      simp
      rw [← q4]
      refine h_n2 (o := o) (k := N1) (v := w4) (l := nx1 o a) hop (by unfold nx1; split <;> simp) hF4 ?_ ?_ hw4 hO4 (by omega) (fun A5 H5 N5 w5 hA5 hw5 hO5 hH5 hF5 hN5 => ?_)
      · simp [l9]
      · rw [hH4 N1 (by omega)]; simp [AHeap.set]
      have m2 := hA5 2 (by simp)
      have m3 := hA5 3 (by simp)
      have m6 := hA5 6 (by simp)
      have m7 := hA5 7 (by simp)
      have m10 := hA5 10 (by simp)
      simp [l2, l3, l6, l7, l10] at m2 m3 m6 m7 m10
      have hkeep : ∀ j, j < N1 → H5 j = H1 j := fun j hj => by
        rw [hH5 j (by omega), hH4 j (by omega)]
        simp only [AHeap.set]; rw [if_neg (by omega)]
      have hlen5 := hO5.rd.len
      rw [intCells_len] at hlen5
      have hS5 : HtS oo out1 rest (.ms id 0 rest.length 1) H5 N5 := ⟨by rw [hkeep oo hoN]; exact hS1.at_, .inr ⟨id, (a : Int) :: z, hid, rfl, by rw [hkeep id hidN, hidH]; simp⟩, hF5, by omega⟩
      have hfit : (stkB m u).fits a va := by
        refine ⟨?_, ?_, ?_⟩
        · rw [hpop]; omega
        · simp only [stkB]; omega
        · rw [hpop, hpush]; simp only [stkB]; omega
      simp [hw5, hlen5, -alen]
      rw [← q5]
      refine ht_b1 (m := m) (u := u) (oo := oo) (out := out1) (todo := rest) (v := .ms id 0 rest.length 1) (v11 := w5) (D := D1) (a := a) (va := va) (Nb := N1 + 1) hO hS5 (hP1.pop hva hva0 hfit) han' (by omega) (by rw [ho]; exact hO5) (fun j k k' hv hv' => ?_) (by rw [hl] at hmx1; omega) ?_ ?_ ?_ ?_ ?_ ?_ (fun A6 H6 N6 v6 out6 todo6 hA6 h67 hS6 hP6 hmu6 => ?_) (fun hng A6 H6 N6 k4 k5 => ?_)
      · cases hv
        have := (hO5.lt hF5 id k' hv').2
        omega
      · simp [m6]
      · simp [m7]
      · simp [m10, ho]
      · simp [hw5]
      · simp [ho]
      · simp
      · have n2 := hA6 2 (by simp)
        have n3 := hA6 3 (by simp)
        have n6 := hA6 6 (by simp)
        simp [m2, m3, m6] at n2 n3 n6
        simp [n2, n3, n6]
        rw [hl] at hmx1
        exact ⟨2 * negs out6 + todo6.length, by omega, v6, out6, todo6, rfl, h67, hS6, ⟨_, hP6⟩, by omega⟩
      · simp
        exact hr hng _ _ _ k4 k5

/-- What heights hand out. -/
noncomputable def htV (m : ImgV) (u : UnitV) : AV := .tup [if (stkB m u).goodB = true then .sl .any 1 (intCells (stkB m u).outL) else .sl .nil 0 [], bl (stkB m u).goodB]
theorem p_heights (hO : HtOk m u) : PCall Tryz.prog 26 [.agg m.cells, .agg u.cells] (htV m u) := by
  obtain ⟨hl1, hl2, hd1, hd2⟩ := hO.len
  have hk0 := stkB_ok hO.fit
  refine PCall.of fun N => acallF mixed c_bytes_heights (by simp) fun hF => ?_
  unfold a_bytes_heights
  obtain ⟨_, q2⟩ : ∃ c, a_bytes_heightsb2 = c := ⟨_, rfl⟩
  rw [q2]
  simp
  refine (a_Repeat (-1) u.ops.length hl1 (by omega) noHeap N).monoF ?_
  rintro r H1 N1 ⟨rfl, hH1, hN1⟩ hF1 _
  have hH1N : H1 N = some (.blk ((List.replicate u.ops.length (-1 : Int)).map i64)) := by rw [hH1]; simp [AHeap.set]
  have hix0 : aindex 1 (.ms N 0 u.ops.length 1) (i64 0) = some (.mp N 0) := by
    simp only [aindex]
    rw [if_pos ⟨trivial, by omega, by omega⟩]
    simp
  have hst : astore H1 1 (.mp N 0) (i64 0) = some (H1.set N (.blk (((List.replicate u.ops.length (-1 : Int)).map i64).set 0 (i64 0)))) := by
    simp only [astore, cells_i64, hH1N]
    rw [if_pos ⟨rfl, by simp; omega⟩]
    simp
  rw [List.map_replicate] at hst hH1N
  have hout : (List.replicate u.ops.length (i64 (-1))).set 0 (i64 0) = ((List.replicate u.ops.length (-1 : Int)).set 0 0).map i64 := by rw [← map_set_i64, List.map_replicate]
  have hNlt : N < N1 := hF1.lt hH1N
  simp [hix0, hst, -astore]
  rw [hout, ← q2]
  have hneg : negs ((List.replicate u.ops.length (-1 : Int)).set 0 0) ≤ u.ops.length := by
    refine Nat.le_trans (List.length_filter_le _ _) ?_
    simp
  refine ht_b2 (m := m) (u := u) (oo := N) (out := (List.replicate u.ops.length (-1 : Int)).set 0 0) (todo := [0]) (v := .ms N1 0 1 1) (D := fun _ => False) hO ?_ (.start hk0) (by simp only [List.length_singleton]; omega) ?_ ?_ ?_ ?_ (fun hg A2 H2 N2 k6 ho => ?_) (fun hg A2 H2 N2 k4 k5 => ?_)
  · refine ⟨?_, .inr ⟨N1, [], by omega, by simp, by simp [AHeap.set]⟩, ?_, by omega⟩
    · simp only [AHeap.set]; rw [if_neg (by omega)]; simp
    · exact (fresh_rewr hF1 hH1N).set _
  · simp
  · simp
  · simp
  · simp
  · simp [k6]
    have hv : htV m u = .tup [.sl .any 1 (intCells (stkB m u).outL), bl true] := by unfold htV; rw [hg]; rfl
    rw [hv]
    refine View.tup' (.cons (view_flat (intCells_sz _) (intCells_free _) ?_ ?_) (.cons (.free rfl) .nil))
    · rw [intCells_len]; unfold Stk.outL; simp [stkB]
    · rw [intCells_flat2]; exact ho
  · simp [k4, k5]
    have : htV m u = .tup [.sl .nil 0 [], bl false] := by unfold htV; rw [hg]; rfl
    rw [this]
    exact .free rfl
end
end Go.Proofs.YtefejpckppabpaaGreatDoor
