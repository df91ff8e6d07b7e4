/- bytes: heights, by the reference: the whole. -/
import Derived.Test.YtefejpckppabpaaGreatDoorW5
import Derived.Test.YtefejpckppabpaaGreatDoorNI
import Derived.Test.YtefejpckppabpaaGreatDoorNK
namespace Go.Proofs.YtefejpckppabpaaGreatDoor
set_option linter.unusedSimpArgs false
set_option linter.unusedVariables false
open Go Go.Fw

section
variable {m : ImgV} {u : UnitV} {oo dd : Nat} {A : Nat → AV} {H : AHeap} {N : Nat} {fs : List Fr} {Q : Post} {out : List Int} {dn : List Bool}

def a_rh_f : ACode := .ops [⟨some 25, .val (.tmp 6), none⟩, ⟨some 26, .val (.tmp 7), none⟩, ⟨some 27, .indexAddr 1 (.tmp 25) (.tmp 26), none⟩, ⟨none, .store 1 (.tmp 27) (.val (.lit (.int .i64 (-1)))), none⟩]
theorem rh_f {i n : Nat} {l : List Int} (h6 : A 6 = .ms oo 0 n 1) (h7 : A 7 = i64 i) (hlt : i < n) (hl : l.length = n) (hd : H oo = some (.blk (l.map i64)))
    (hk : ∀ A', (∀ t ∈ [2, 3, 6, 7], A' t = A t) → onward Tryz.prog fs Q .normal ⟨A', H.set oo (.blk ((l.set i (-1)).map i64)), N⟩) : run Tryz.prog a_rh_f fs Q ⟨A, H, N⟩ := by
  have hix : aindex 1 (.ms oo 0 n 1) (i64 (i : Nat)) = some (.mp oo i) := by simp [aindex, hlt]
  have hst : astore H 1 (.mp oo i) (i64 (-1)) = some (H.set oo (.blk ((l.map i64).set i (i64 (-1))))) := by
    have hbm : i + 1 ≤ (l.map i64).length := by simp; omega
    simp [astore, hd, hbm]
    omega
  rw [map_set_i64] at hst
  simp [a_rh_f, h6, h7, hix, hst, -aload, -astore]
  rw [map_set_i64]
  refine hk _ ?_
  simp
theorem rt_b4 {n : Nat} (hn : 1 ≤ n) (hn2 : n ≤ 1000000) (h2 : A 2 = .ip m.cells 0) (h3 : A 3 = .ip u.cells 0) (h6 : A 6 = .ms oo 0 n 1) (h7 : A 7 = i64 1) (hd : H oo = some (.blk ((List.replicate n (0 : Int)).map i64))) (hF : Fresh H N)
    (hk : ∀ A' H', A' 2 = .ip m.cells 0 → A' 3 = .ip u.cells 0 → A' 6 = .ms oo 0 n 1 → H' oo = some (.blk (((List.replicate n (-1 : Int)).set 0 0).map i64)) → Fresh H' N → onward Tryz.prog fs Q (.exit 0) ⟨A', H', N⟩) : run Tryz.prog (.loop a_bobbinref29_heightsb4) fs Q ⟨A, H, N⟩ := by
  refine run_loop (fun w s => ∃ (i : Nat) (l : List Int), 1 ≤ i ∧ i ≤ n ∧ w = n - i ∧ s.A 2 = .ip m.cells 0 ∧ s.A 3 = .ip u.cells 0 ∧ s.A 6 = .ms oo 0 n 1 ∧ s.A 7 = i64 (i : Nat) ∧ s.N = N ∧ s.H oo = some (.blk (l.map i64)) ∧ Fresh s.H N ∧ l.length = n ∧ l[0]? = some (0 : Int) ∧ ∀ j, 1 ≤ j → j < i → l[j]? = some (-1)) (n - 1) ?_ ?_
  · refine ⟨1, List.replicate n 0, by omega, by omega, by omega, h2, h3, h6, h7, rfl, hd, hF, by simp, ?_, fun j h1 h2 => by omega⟩
    rw [List.getElem?_replicate, if_pos (by omega)]
  · rintro w A1 H1 N1 ⟨i, l, hi1, hi, rfl, e2, e3, e6, e7, eN, eH, eF, hl, h0, hj⟩
    simp only at e2 e3 e6 e7 eN eH eF
    subst eN
    have hwi : IntKind.i64.wrap ((i : Int) + 1) = ((i + 1 : Nat) : Int) := by rw [wrap_i64 (by omega) (by omega)]; rfl
    by_cases hie : i = n
    · subst hie
      simp [a_bobbinref29_heightsb4, e7, e6]
      refine hk _ _ ?_ ?_ ?_ ?_ eF
      · simp [e2]
      · simp [e3]
      · simp [e6]
      · rw [eH]
        congr 3
        refine List.ext_getElem? fun j => ?_
        by_cases hj0 : j = 0
        · subst hj0
          rw [h0, List.getElem?_set_self (by simp; omega)]
        · rw [List.getElem?_set_ne (by omega)]
          by_cases hji : j < i
          · rw [hj j (by omega) hji, List.getElem?_replicate, if_pos hji]
          · rw [List.getElem?_eq_none (by omega), List.getElem?_eq_none (by simp; omega)]
    · have hlt : i < n := by omega
      unfold a_bobbinref29_heightsb4
      change run _ (.seq _ (.seq (.block 1 a_rh_f) _)) _ _ _
      obtain ⟨_, q5⟩ : ∃ c, a_rh_f = c := ⟨_, rfl⟩
      rw [q5]
      simp [e7, e6, hlt]
      rw [← q5]
      refine rh_f (oo := oo) (i := i) (n := n) (l := l) ?_ ?_ hlt hl eH (fun A2 hA2 => ?_)
      · simp [e6]
      · simp [e7]
      have g2 := hA2 2 (by simp)
      have g3 := hA2 3 (by simp)
      have g6 := hA2 6 (by simp)
      have g7 := hA2 7 (by simp)
      simp [e2, e3, e6, e7] at g2 g3 g6 g7
      simp [g2, g3, g6, g7, hwi]
      refine ⟨n - (i + 1), by omega, i + 1, by omega, by omega, rfl, rfl, l.set i (-1), ?_, fresh_rewr eF eH, by simp [hl], ?_, fun j h1 h2 => ?_⟩
      · rw [← map_set_i64]
      · rw [List.getElem?_set_ne (by omega)]; exact h0
      · by_cases hji : j = i
        · subst hji; rw [List.getElem?_set_self (by omega)]
        · rw [List.getElem?_set_ne (by omega)]; exact hj j h1 (by omega)

/-- The sweeps. -/
theorem rt_b3 (hO : HtOk m u) (hS : RtS oo dd out dn H N) (hW : (stkB m u).Way out (inD dn)) (hdl : dn.length = u.ops.length) (h2 : A 2 = .ip m.cells 0) (h3 : A 3 = .ip u.cells 0) (h6 : A 6 = .ms oo 0 u.ops.length 1) (h8 : A 8 = .ms dd 0 u.ops.length 1) (h9 : A 9 = bl true)
    (hk : (stkB m u).goodB = true → ∀ A' H' N', A' 6 = .ms oo 0 u.ops.length 1 → H' oo = some (.blk ((stkB m u).outL.map i64)) → onward Tryz.prog fs Q (.exit 2) ⟨A', H', N'⟩)
    (hr : (stkB m u).goodB = false → ∀ A' H' N', A' 4 = .sl .nil 0 [] → A' 5 = bl false → onward Tryz.prog fs Q .ret ⟨A', H', N'⟩) : run Tryz.prog (.loop a_bobbinref29_heightsb3) fs Q ⟨A, H, N⟩ := by
  have hk0 := stkB_ok hO.fit
  refine run_loop (fun w s => ∃ out' dn' mo, w = (if mo = true then notD dn' + 1 else 0) ∧ s.A 2 = .ip m.cells 0 ∧ s.A 3 = .ip u.cells 0 ∧ s.A 6 = .ms oo 0 u.ops.length 1 ∧ s.A 8 = .ms dd 0 u.ops.length 1 ∧ s.A 9 = bl mo ∧ RtS oo dd out' dn' s.H s.N ∧ (stkB m u).Way out' (inD dn') ∧ dn'.length = u.ops.length ∧ (mo = false → ∀ (j : Nat) (v : Int), out'[j]? = some v → 0 ≤ v → inD dn' j)) (notD dn + 1) ?_ ?_
  · exact ⟨out, dn, true, by simp, h2, h3, h6, h8, h9, hS, hW, hdl, fun h => by cases h⟩
  · rintro w A1 H1 N1 ⟨out1, dn1, mo, rfl, e2, e3, e6, e8, e9, hS1, hW1, hdl1, hc⟩
    simp only at e2 e3 e6 e8 e9 hS1
    unfold a_bobbinref29_heightsb3
    obtain ⟨_, q2⟩ : ∃ c, a_bobbinref29_heightsb2 = c := ⟨_, rfl⟩
    rw [q2]
    cases mo with
    | false =>
      obtain ⟨hg, ho⟩ := hW1.end_ hk0 (hc rfl)
      simp [e9]
      refine hk hg _ _ _ ?_ (by rw [← ho]; exact hS1.at_)
      simp [e6]
    | true =>
      simp [e9]
      rw [← q2]
      refine rt_b2 (m := m) (u := u) (oo := oo) (dd := dd) (out := out1) (dn := dn1) hO hS1 hW1 hdl1 ?_ ?_ ?_ ?_ ?_ ?_ (fun A2 H2 N2 out2 dn2 mo2 g2 g3 g6 g8 g9 hS2 hW2 hdl2 hmt hmf => ?_) (fun hng A2 H2 N2 k4 k5 => ?_)
      · simp [e2]
      · simp [e3]
      · simp [e6]
      · simp [e8]
      · simp
      · simp
      · cases mo2 with
        | false =>
          simp [g2, g3, g6, g8, g9]
          exact ⟨0, by omega, rfl, out2, dn2, hS2, hW2, hdl2, hmf rfl⟩
        | true =>
          simp [g2, g3, g6, g8, g9]
          have := hmt rfl
          exact ⟨notD dn2 + 1, by omega, out2, dn2, rfl, hS2, hW2, hdl2⟩
      · simp
        exact hr hng _ _ _ k4 k5
end

theorem p_rHeights {m : ImgV} {u : UnitV} (hO : HtOk m u) : PCall Tryz.prog 29 [.agg m.cells, .agg u.cells] (htV m u) := by
  obtain ⟨hl1, hl2, hd1, hd2⟩ := hO.len
  have hk0 := stkB_ok hO.fit
  refine PCall.of fun N => acallF mixed c_bobbinref29_heights (by simp) fun hF => ?_
  have hmk : amake 1 8 [i64 0] (i64 u.ops.length) (i64 u.ops.length) = some (u.ops.length, u.ops.length) := by
    simp [amake]; omega
  have hmk2 : amake 1 1 [bl false] (i64 u.ops.length) (i64 u.ops.length) = some (u.ops.length, u.ops.length) := by
    simp [amake]; omega
  unfold a_bobbinref29_heights
  obtain ⟨_, q3⟩ : ∃ c, a_bobbinref29_heightsb3 = c := ⟨_, rfl⟩
  rw [q3]
  obtain ⟨_, q4⟩ : ∃ c, a_bobbinref29_heightsb4 = c := ⟨_, rfl⟩
  rw [q4]
  simp [hmk]
  rw [← q4]
  refine rt_b4 (m := m) (u := u) (oo := N) (n := u.ops.length) hl1 (by omega) ?_ ?_ ?_ ?_ ?_ ?_ (fun A1 H1 g2 g3 g6 hH1 hF1 => ?_)
  · simp
  · simp
  · simp
  · simp
  · simp
  · exact hF.set _
  simp [g3, hmk2]
  have hNlt : N < N + 1 := by omega
  rw [← q3]
  refine rt_b3 (m := m) (u := u) (oo := N) (dd := N + 1) (out := (List.replicate u.ops.length (-1 : Int)).set 0 0) (dn := List.replicate u.ops.length false) hO ⟨?_, ?_, hF1.set _, by omega, by omega⟩ ((Stk.Way.start hk0).fewer fun a ha => ?_) (by simp) ?_ ?_ ?_ ?_ ?_ (fun hg A2 H2 N2 k6 ho => ?_) (fun hg A2 H2 N2 k4 k5 => ?_)
  · simp only [AHeap.set]; rw [if_neg (by omega)]; exact hH1
  · simp [AHeap.set]
  · unfold inD at ha
    have := List.eq_of_mem_replicate (List.mem_of_getElem? ha)
    cases this
  · simp [g2]
  · simp [g3]
  · simp [g6]
  · simp
  · simp
  · simp [k6]
    have hv : htV m u = .tup [.sl .any 1 (intCells (stkB m u).outL), bl true] := by unfold htV; rw [hg]; rfl
    rw [hv]
    refine View.tup' (.cons (view_flat (intCells_sz _) (intCells_free _) ?_ ?_) (.cons (.free rfl) .nil))
    · rw [intCells_len]; unfold Stk.outL; simp [stkB]
    · rw [intCells_flat2]; exact ho
  · simp [k4, k5]
    have : htV m u = .tup [.sl .nil 0 [], bl false] := by unfold htV; rw [hg]; rfl
    rw [this]
    exact .free rfl
end Go.Proofs.YtefejpckppabpaaGreatDoor

/- bytes: May, by the reference. -/
namespace Go.Proofs.YtefejpckppabpaaGreatDoor
set_option linter.unusedSimpArgs false
set_option linter.unusedVariables false
open Go Go.Fw
section
variable {m : ImgV} {u : UnitV} {k q : Nat} {A : Nat → AV} {H : AHeap} {N : Nat} {fs : List Fr} {Q : Post}
theorem r_bare (hl : m.units.length ≤ 1000000000) (hF : Fresh H N) (hq : q + 1 ≤ N) (h1 : A 1 = .ip m.cells 0) (h3 : A 3 = .mp q 0) (h4 : A 4 = i64 0) (hH : H q = some (.blk [.sl m.mmk 3 (memCells m.mems), .sl m.lk 1 (lockCells m.locks), .sl .nil 0 []]))
    (hk : ∀ A' H' N' v, A' 1 = .ip m.cells 0 → A' 3 = .mp q 0 → H' q = some (.blk [.sl m.mmk 3 (memCells m.mems), .sl m.lk 1 (lockCells m.locks), v]) → Built H' (q + 1) 5 (.sl .nil 0 []) (funCells (m.units.map fun g => bareU g g.params)) v → Fresh H' N' → q + 1 ≤ N' → onward Tryz.prog fs Q (.exit 0) ⟨A', H', N'⟩) : run Tryz.prog (.loop a_bobbinref29_Mayb3) fs Q ⟨A, H, N⟩ := by
  refine run_loop (fun w s => ∃ j v, j ≤ m.units.length ∧ w = m.units.length - j ∧ s.A 1 = .ip m.cells 0 ∧ s.A 3 = .mp q 0 ∧ s.A 4 = i64 (j : Nat) ∧ s.H q = some (.blk [.sl m.mmk 3 (memCells m.mems), .sl m.lk 1 (lockCells m.locks), v]) ∧ Built s.H (q + 1) 5 (.sl .nil 0 []) (funCells ((m.units.map fun g => bareU g g.params).take j)) v ∧ Fresh s.H s.N ∧ q + 1 ≤ s.N) m.units.length ?_ ?_
  · exact ⟨0, .sl .nil 0 [], by omega, by omega, h1, h3, h4, hH, Built.nil, hF, hq⟩
  · rintro w A1 H1 N1 ⟨j, v, hj, rfl, e1, e3, e4, h3', hB, hF1, hN1⟩
    simp only at e1 e3 e4 h3' hB hF1 hN1
    have hw : IntKind.i64.wrap ((j : Int) + 1) = ((j + 1 : Nat) : Int) := by rw [wrap_i64 (by omega) (by omega)]; rfl
    by_cases hje : j = m.units.length
    · subst hje
      rw [show m.units.length = (m.units.map fun g => bareU g g.params).length by simp, List.take_length] at hB
      simp [a_bobbinref29_Mayb3, e1, e4]
      refine hk _ _ _ v ?_ ?_ h3' hB hF1 hN1
      · simp [e1]
      · simp [e3]
    · have hlt : j < m.units.length := by omega
      obtain ⟨g, hg⟩ : ∃ g, m.units[j] = g := ⟨_, rfl⟩
      have hix : aindex 6 (.sl m.uk 6 (unitCells m.units)) (i64 (j : Nat)) = some (.ip g.cells 0) := aindex_sl (by omega) (by simp [unitCells, hlt, hg])
      have hsx : splice 0 g.cells [AV.lit (Value.string ⟨#[]⟩), AV.lit (Value.bool false), AV.lit (Value.int .i64 0), AV.lit (Value.int .i64 0), AV.lit (Value.int .i64 0), AV.sl .nil 0 []] = g.cells := splice_full (by simp)
      have hB1 := built_later (H' := H1.set N1 (.blk g.cells)) hB hF1 (fun i hi => by simp only [AHeap.set]; rw [if_neg (by omega)])
      have hF2 : Fresh (H1.set N1 (.blk g.cells)) (N1 + 1) := hF1.set _
      obtain ⟨v', H2, N2, happ, hB2, hlow, hN2, hF3⟩ := hB1.push (N := N1 + 1) (bytes := 64) (k := .exact) (x := (bareU g g.params).cells) hF2 (by omega) (by simp) (by simp [lim]; omega) (by simp; omega)
      have hvc := hB1.rd.cells
      have hvc2 := hB2.rd.cells
      have hrow : [AV.lit (Value.string g.name), AV.lit (Value.bool g.thread), AV.lit (Value.int .i64 g.params), AV.lit (Value.int .i64 g.params), AV.sl .exact 6 [[AV.lit (Value.int .u8 11), AV.lit (Value.int .i64 0), AV.lit (Value.int .i64 0), AV.lit (Value.int .i64 0), AV.lit (Value.int .i64 0), .sl .nil 0 []]]] = (bareU g g.params).cells := rfl
      rw [← hrow] at happ
      have hold3 : H2 q = some (.blk [.sl m.mmk 3 (memCells m.mems), .sl m.lk 1 (lockCells m.locks), v]) := by rw [hlow q (by omega)]; simp only [AHeap.set]; rw [if_neg (by omega)]; exact h3'
      simp [a_bobbinref29_Mayb3, e1, e3, e4, hlt, hix, hsx, h3', show ¬ q = N1 by omega, happ, hvc, hvc2, hold3, hw, -AV.cells]
      refine ⟨m.units.length - (j + 1), by omega, j + 1, by omega, rfl, by omega, ?_, fresh_rewr hF3 hold3, by omega⟩
      have htk : funCells ((m.units.map fun g => bareU g g.params).take (j + 1)) = funCells ((m.units.map fun g => bareU g g.params).take j) ++ [(bareU g g.params).cells] := by
        rw [take_next (by simpa using hlt)]
        simp [funCells, hg]
      rw [htk]
      obtain ⟨b1, b2⟩ := hB2
      refine ⟨b1, b2.imp id ?_⟩
      rintro ⟨hne, id, hid, rfl, hH⟩
      exact ⟨hne, id, hid, rfl, by simp only [AHeap.set]; rw [if_neg (by omega)]; exact hH⟩

theorem rm_h (h7 : A 7 = .mp k 0) (hk0 : H k = some (.blk u.cells)) (h8 : A 8 = i64 u.ops.length)
    (hk : headU u = true → ∀ A', (∀ t ∈ [1, 6, 7, 8], A' t = A t) → onward Tryz.prog fs Q .normal ⟨A', H, N⟩)
    (hr : headU u = false → ∀ A', A' 2 = bl false → onward Tryz.prog fs Q .ret ⟨A', H, N⟩) : run Tryz.prog a_rm_h fs Q ⟨A, H, N⟩ := by
  have no : ¬ (u.params ≤ u.slots ∧ u.slots ≤ 65536 ∧ 0 ≤ u.depth ∧ u.depth ≤ 65536 ∧ 1 ≤ u.ops.length ∧ u.ops.length ≤ 524288) → headU u = false := fun h => decide_eq_false h
  by_cases c1 : u.slots < u.params
  · simp [a_rm_h, h7, hk0, h8, c1]
    exact hr (no (by omega)) _ (by simp)
  by_cases c2 : 65536 < u.slots
  · simp [a_rm_h, h7, hk0, h8, c1, c2]
    exact hr (no (by omega)) _ (by simp)
  by_cases c3 : u.depth < 0
  · simp [a_rm_h, h7, hk0, h8, c1, c2, c3]
    exact hr (no (by omega)) _ (by simp)
  by_cases c4 : 65536 < u.depth
  · simp [a_rm_h, h7, hk0, h8, c1, c2, c3, c4]
    exact hr (no (by omega)) _ (by simp)
  by_cases c5 : (u.ops.length : Int) < 1
  · simp [a_rm_h, h7, hk0, h8, c1, c2, c3, c4, c5]
    exact hr (no (by omega)) _ (by simp)
  by_cases c6 : (524288 : Int) < u.ops.length
  · simp [a_rm_h, h7, hk0, h8, c1, c2, c3, c4, c5, c6]
    exact hr (no (by omega)) _ (by simp)
  simp [a_rm_h, h7, hk0, h8, c1, c2, c3, c4, c5, c6]
  refine hk (decide_eq_true ⟨by omega, by omega, by omega, by omega, by omega, by omega⟩) _ ?_
  simp [h7, h8]

theorem rm_c (hu : u.ops.length ≤ 524288) (h1 : A 1 = .ip m.cells 0) (h7 : A 7 = .mp k 0) (hk0 : H k = some (.blk u.cells)) (h8 : A 8 = i64 u.ops.length)
    (hk : (zall u.ops fun o _ => namB m u o) = true → ∀ A', (∀ t ∈ [1, 6, 7, 8], A' t = A t) → onward Tryz.prog fs Q .normal ⟨A', H, N⟩)
    (hr : (zall u.ops fun o _ => namB m u o) = false → ∀ A', A' 2 = bl false → onward Tryz.prog fs Q .ret ⟨A', H, N⟩) : run Tryz.prog a_rm_c fs Q ⟨A, H, N⟩ := by
  have hmT : ∀ H' : AHeap, aload H' true 3 (.ip m.cells 0) = some (.agg m.cells) := fun H' => by simp [aload, apart]
  have hoT : ∀ o : OpV, aload H true 2 (.ip o.cells 0) = some (.agg o.cells) := fun o => by simp [aload, apart]
  have huT : aload H true 6 (.mp k 0) = some (.agg u.cells) := by simp [aload, apart, hk0]
  have hu5 : aload H false 1 (.mp k 5) = some (.sl u.k 2 (opsCells u.ops)) := by simp [aload, apart, hk0]
  unfold a_rm_c
  obtain ⟨_, q1⟩ : ∃ c, a_bobbinref29_Mayb1 = c := ⟨_, rfl⟩
  rw [q1]
  simp
  rw [← q1]
  refine run_loop (fun w s => ∃ i, i ≤ u.ops.length ∧ w = u.ops.length - i ∧ (∀ t ∈ [1, 6, 7, 8], s.A t = A t) ∧ s.A 9 = i64 (i : Nat) ∧ s.H = H ∧ s.N = N ∧ ∀ j (hj : j < u.ops.length), j < i → namB m u u.ops[j] = true) u.ops.length ?_ ?_
  · exact ⟨0, by omega, by omega, by simp, by simp, rfl, rfl, fun j _ h => by omega⟩
  · rintro w A1 H1 N1 ⟨i, hi, rfl, hA, e9, eH, eN, hok⟩
    simp only at hA e9 eH eN
    subst eH
    subst eN
    have e1 := hA 1 (by simp)
    have e6 := hA 6 (by simp)
    have e7 := hA 7 (by simp)
    have e8 := hA 8 (by simp)
    have hw : IntKind.i64.wrap ((i : Int) + 1) = ((i + 1 : Nat) : Int) := by rw [wrap_i64 (by omega) (by omega)]; rfl
    by_cases hie : i = u.ops.length
    · subst hie
      simp [a_bobbinref29_Mayb1, e8, h8, e9]
      refine hk (zall_iff.2 fun j hj => hok j hj hj) _ ?_
      simp [e1, e6, e7, e8, h8]
    · have hlt : i < u.ops.length := by omega
      obtain ⟨o, ho⟩ : ∃ o, u.ops[i] = o := ⟨_, rfl⟩
      have hix : aindex 2 (.sl u.k 2 (opsCells u.ops)) (i64 (i : Nat)) = some (.ip o.cells 0) := aindex_sl (by omega) (by simp [opsCells, hlt, ho])
      simp [a_bobbinref29_Mayb1, e1, h1, e7, h7, e8, h8, e9, hlt, hmT, hoT, huT, hu5, hix, aload_ip, -aload]
      refine (p_rNamed (m := m) (u := u) (o := o)).acall ?_
      cases hn : namB m u o with
      | false =>
        simp
        exact hr (zall_bad hlt (by rw [ho]; exact hn)) _ (by simp)
      | true =>
        simp [e1, h1, e6, e7, h7, e8, h8, e9, hw]
        refine ⟨u.ops.length - (i + 1), by omega, i + 1, by omega, rfl, rfl, fun j hj hji => ?_⟩
        by_cases hji2 : j = i
        · subst hji2; rw [ho]; exact hn
        · exact hok j hj (by omega)

theorem rm_l (hl : 1 ≤ u.ops.length) (hl2 : u.ops.length ≤ 524288) (h7 : A 7 = .mp k 0) (hk0 : H k = some (.blk u.cells)) (h8 : A 8 = i64 u.ops.length)
    (hk : lastB2 u = true → ∀ A', (∀ t ∈ [1, 6, 7], A' t = A t) → onward Tryz.prog fs Q .normal ⟨A', H, N⟩)
    (hr : lastB2 u = false → ∀ A', A' 2 = bl false → onward Tryz.prog fs Q .ret ⟨A', H, N⟩) : run Tryz.prog a_rm_l fs Q ⟨A, H, N⟩ := by
  have hlt : u.ops.length - 1 < u.ops.length := by omega
  obtain ⟨o, ho⟩ : ∃ o, u.ops[u.ops.length - 1] = o := ⟨_, rfl⟩
  have hsub : IntKind.i64.wrap ((u.ops.length : Int) - 1) = ((u.ops.length - 1 : Nat) : Int) := by rw [wrap_i64 (by omega) (by omega)]; omega
  have hix : aindex 2 (.sl u.k 2 (opsCells u.ops)) (i64 ((u.ops.length - 1 : Nat) : Int)) = some (.ip o.cells 0) := aindex_sl (by omega) (by simp only [Int.toNat_natCast, opsCells, List.getElem?_map, List.getElem?_eq_getElem hlt, Option.map_some, ho])
  have hlast : lastB2 u = decide (o.code = 12 ∨ o.code = 14) := by
    unfold lastB2
    rw [List.getLast?_eq_getElem?, List.getElem?_eq_getElem hlt, ho]
  rw [hlast] at hk hr
  by_cases c1 : o.code = 12
  · simp [a_rm_l, h7, hk0, h8, hsub, hix, c1]
    refine hk (by simp [c1]) _ ?_
    simp [h7]
  · by_cases c2 : o.code = 14
    · simp [a_rm_l, h7, hk0, h8, hsub, hix, c2]
      refine hk (by simp [c2]) _ ?_
      simp [h7]
    · simp [a_rm_l, h7, hk0, h8, hsub, hix, c1, c2]
      exact hr (by simp [c1, c2]) _ (by simp)
end
end Go.Proofs.YtefejpckppabpaaGreatDoor

/- bytes: May and Heights, by the reference. -/
namespace Go.Proofs.YtefejpckppabpaaGreatDoor
set_option linter.unusedSimpArgs false
set_option linter.unusedVariables false
open Go Go.Fw

theorem p_rbMay {m : ImgV} (hm : m.Ok) (ht : m.mems.length + m.locks.length + m.units.length ≤ 1000000000) : PCall Tryz.prog 8 [.agg m.cells] (bl (imgB m)) := by
  refine PCall.of fun N => acallF mixed c_bobbinref29_May (by simp) fun hF => ?_
  obtain ⟨B, hB⟩ : ∃ B, imgB m = B := ⟨_, rfl⟩
  rw [hB]
  unfold imgB at hB
  have hPm : PCall Tryz.prog 27 [.agg [.sl m.mmk 3 (memCells m.mems), .sl m.lk 1 (lockCells m.locks), bsl (.sl .nil 0 []) 5 (funCells (m.units.map fun g => bareU g g.params))]] (bl (prgB (bareM m))) := by
    refine (p_refMay (bareM_fit hm ht)).nrm ?_
    by_cases h0 : m.units = []
    · simp only [bareM, PrgV.cells, h0, if_true]
      rfl
    · simp only [bareM, PrgV.cells, if_neg h0]
      cases hq : m.units with
      | nil => exact absurd hq h0
      | cons g r => rfl
  have hsx : splice 0 [AV.sl m.mmk 3 (memCells m.mems), AV.sl m.lk 1 (lockCells m.locks), AV.sl .nil 0 []] [AV.sl .nil 0 [], AV.sl .nil 0 [], AV.sl .nil 0 []] = [AV.sl m.mmk 3 (memCells m.mems), AV.sl m.lk 1 (lockCells m.locks), AV.sl .nil 0 []] := rfl
  unfold a_bobbinref29_May
  obtain ⟨_, e1⟩ : ∃ c, a_bobbinref29_Mayb2 = c := ⟨_, rfl⟩
  rw [e1]
  obtain ⟨_, e3⟩ : ∃ c, a_bobbinref29_Mayb3 = c := ⟨_, rfl⟩
  rw [e3]
  simp
  rw [← e3]
  refine r_bare (m := m) (q := N) (by omega) (hF.set _) (by omega) ?_ ?_ ?_ ?_ (fun A1 H1 N1 v g1 g3 hH1 hBv hF1 hN1 => ?_)
  · simp
  · simp
  · simp
  · simp [hsx]
  have hvc := hBv.rd.cells
  simp [g3, hH1, -AV.cells]
  refine PCall.seen hPm rfl (views (.cons (.agg' (.cons (.free (by simp [AV.free, memCells_free])) (.cons (.free (by simp [AV.free, lockCells_free])) (.cons (hBv.view (funCells_free _)) .nil)))) .nil)) ?_
  cases hp : prgB (bareM m) with
  | false =>
    rw [hp, Bool.false_and] at hB
    simp [← hB]
    exact .free rfl
  | true =>
    rw [hp, Bool.true_and] at hB
    have hpar := bareM_params hp
    simp [-AV.cells]
    rw [← e1]
    refine run_loop (fun w s => ∃ j, j ≤ m.units.length ∧ w = m.units.length - j ∧ s.A 1 = .ip m.cells 0 ∧ s.A 6 = i64 (j : Nat) ∧ ∀ i (hi : i < m.units.length), i < j → unitB m m.units[i] = true) m.units.length ?_ ?_
    · exact ⟨0, by omega, by omega, by simp [g1], by simp, fun i _ h => by omega⟩
    · rintro w A2 H2 N2 ⟨j, hj, rfl, f1, f6, hok⟩
      simp only at f1 f6
      have hw : IntKind.i64.wrap ((j : Int) + 1) = ((j + 1 : Nat) : Int) := by
        have := hm.ul
        rw [wrap_i64 (by omega) (by omega)]; rfl
      unfold a_bobbinref29_Mayb2
      obtain ⟨_, q1⟩ : ∃ c, a_rm_h = c := ⟨_, rfl⟩
      rw [q1]
      obtain ⟨_, q2⟩ : ∃ c, a_rm_c = c := ⟨_, rfl⟩
      rw [q2]
      obtain ⟨_, q3⟩ : ∃ c, a_rm_l = c := ⟨_, rfl⟩
      rw [q3]
      by_cases hje : j = m.units.length
      · subst hje
        have : B = true := by rw [← hB]; exact zall_iff.2 fun i hi => hok i hi hi
        simp [f1, f6, this]
        exact .free rfl
      · have hlt : j < m.units.length := by omega
        obtain ⟨u, hu⟩ : ∃ u, m.units[j] = u := ⟨_, rfl⟩
        have huo := hm.ok u (by rw [← hu]; exact List.getElem_mem hlt)
        have hix : aindex 6 (.sl m.uk 6 (unitCells m.units)) (i64 (j : Nat)) = some (.ip u.cells 0) := aindex_sl (by omega) (by simp [unitCells, hlt, hu])
        have hsx : splice 0 u.cells [AV.lit (Value.string ⟨#[]⟩), AV.lit (Value.bool false), AV.lit (Value.int .i64 0), AV.lit (Value.int .i64 0), AV.lit (Value.int .i64 0), AV.sl .nil 0 []] = u.cells := splice_full (by simp)
        have bad : unitB m u = false → B = false := fun h => by rw [← hB]; exact zall_bad hlt (by rw [hu]; exact h)
        simp [f1, f6, hlt, hix, hsx]
        rw [← q1]
        refine rm_h (u := u) (k := N2) ?_ ?_ ?_ (fun hh A3 hA3 => ?_) (fun hh A3 k2 => ?_)
        · simp
        · simp
        · simp
        rotate_left
        · have : B = false := bad (by unfold unitB fitU; rw [hh]; rfl)
          simp [k2, this]
          exact .free rfl
        have g1 := hA3 1 (by simp)
        have g6 := hA3 6 (by simp)
        have g7 := hA3 7 (by simp)
        have g8 := hA3 8 (by simp)
        simp [f1, f6] at g1 g6 g7 g8
        have hl1 : 1 ≤ u.ops.length ∧ u.ops.length ≤ 524288 := by
          simp only [headU, decide_eq_true_eq] at hh
          exact ⟨hh.2.2.2.2.1, hh.2.2.2.2.2⟩
        simp
        rw [← q2]
        refine rm_c (m := m) (u := u) (k := N2) hl1.2 (by simp [g1]) (by simp [g7]) (by simp) (by simp [g8]) (fun hc A4 hA4 => ?_) (fun hc A4 k2 => ?_)
        rotate_left
        · have : B = false := bad (by unfold unitB fitU; rw [hc]; simp)
          simp [k2, this]
          exact .free rfl
        have j1 := hA4 1 (by simp)
        have j6 := hA4 6 (by simp)
        have j7 := hA4 7 (by simp)
        have j8 := hA4 8 (by simp)
        simp [g1, g6, g7, g8] at j1 j6 j7 j8
        simp
        rw [← q3]
        refine rm_l (u := u) (k := N2) hl1.1 hl1.2 (by simp [j7]) (by simp) (by simp [j8]) (fun hl A5 hA5 => ?_) (fun hl A5 k2 => ?_)
        rotate_left
        · have : B = false := bad (by unfold unitB fitU; rw [hl]; simp)
          simp [k2, this]
          exact .free rfl
        have l1 := hA5 1 (by simp)
        have l6 := hA5 6 (by simp)
        have l7 := hA5 7 (by simp)
        simp [j1, j6, j7] at l1 l6 l7
        have hfit : fitU m u = true := by unfold fitU; rw [hh, hc, hl]; rfl
        simp [a_rm_g, l1, l7]
        refine (p_rHeights ⟨hfit, hpar⟩).acall ?_
        cases hgd : (stkB m u).goodB with
        | false =>
          have : B = false := bad (by unfold unitB; rw [hgd]; simp)
          simp [htV, hgd, this]
          exact .free rfl
        | true =>
          simp [htV, hgd, l1, l6, hw]
          refine ⟨m.units.length - (j + 1), by omega, j + 1, by omega, rfl, rfl, fun i hi hij => ?_⟩
          by_cases hij2 : i = j
          · subst hij2; rw [hu]; unfold unitB; rw [hfit, hgd]; rfl
          · exact hok i hi (by omega)

theorem p_rbHeights {m : ImgV} {n : Int} (hm : m.Ok) (ht : m.mems.length + m.locks.length + m.units.length ≤ 1000000000) : PCall Tryz.prog 12 [.agg m.cells, i64 n] (htAns m n) := by
  refine PCall.of fun N => acall mixed c_bobbinref29_Heights (by simp) ?_
  simp [a_bobbinref29_Heights]
  refine (p_rbMay hm ht).acall ?_
  cases hi : imgB m with
  | false =>
    have : htAns m n = .tup [.sl .nil 0 [], i64 4] := by unfold htAns; rw [hi]; rfl
    simp [this]
    exact .free rfl
  | true =>
    simp
    refine (p_rWithin n m.units.length).acall ?_
    cases hw : within n m.units.length with
    | false =>
      have : htAns m n = .tup [.sl .nil 0 [], i64 4] := by
        unfold htAns
        rw [if_neg (by simp [hw])]
      simp [this]
      exact .free rfl
    | true =>
      have hb : 0 ≤ n ∧ n < m.units.length := by simpa [within] using hw
      obtain ⟨u, hu⟩ : ∃ u, m.units[n.toNat]? = some u := ⟨m.units[n.toNat]'(by omega), by simp [show n.toNat < m.units.length by omega]⟩
      have hix : aindex 6 (.sl m.uk 6 (unitCells m.units)) (i64 n) = some (.ip u.cells 0) := aindex_sl (by omega) (unitCells_at hu)
      obtain ⟨hO, hg⟩ := imgB_unit hi (List.mem_of_getElem? hu)
      have : htAns m n = .tup [.sl .any 1 (intCells (stkB m u).outL), i64 0] := by
        unfold htAns
        rw [if_pos (by rw [hi, hw]; rfl)]
        unfold htL
        rw [hu]
      simp [hix]
      refine (p_rHeights hO).acall ?_
      simp [htV, hg, this]
      exact .free (by simp [AV.free, freeL, intCells_free])
end Go.Proofs.YtefejpckppabpaaGreatDoor

/- bytes: Same, by the reference. -/
namespace Go.Proofs.YtefejpckppabpaaGreatDoor
set_option linter.unusedSimpArgs false
set_option linter.unusedVariables false
open Go Go.Fw
section
variable {x y : UnitV} {k q : Nat} {A : Nat → AV} {H : AHeap} {N : Nat} {fs : List Fr} {Q : Post}
theorem rs_h (hx : x.Ok) (h6 : A 6 = .mp k 0) (h7 : A 7 = .mp q 0) (hH : H k = some (.blk x.cells)) (hH2 : H q = some (.blk y.cells))
    (hk : x.name = y.name → x.thread = y.thread → x.params = y.params → x.slots = y.slots → x.depth = y.depth → x.ops.length = y.ops.length → ∀ A', (∀ t, t ≤ 7 → A' t = A t) → onward Tryz.prog fs Q .normal ⟨A', H, N⟩)
    (hr : sameU x y = false → ∀ A', A' 4 = bl false → onward Tryz.prog fs Q .ret ⟨A', H, N⟩) : run Tryz.prog a_rs_h fs Q ⟨A, H, N⟩ := by
  have no : ¬ (x.name = y.name ∧ x.thread = y.thread ∧ x.params = y.params ∧ x.slots = y.slots ∧ x.depth = y.depth) → sameU x y = false := fun h => by simp only [sameU, h, decide_false, Bool.false_and]
  by_cases h1 : x.name = y.name
  · by_cases h2 : x.thread = y.thread
    · by_cases h3 : x.params = y.params
      · by_cases h4 : x.slots = y.slots
        · by_cases h5 : x.depth = y.depth
          · by_cases hl : x.ops.length = y.ops.length
            · simp [a_rs_h, h6, h7, hH, hH2, h1, h2, h3, h4, h5, hl]
              refine hk h1 h2 h3 h4 h5 hl _ fun t htt => ?_
              (try simp only [upA]); repeat rw [if_neg (by omega)]
            · have := hr (by unfold sameU; rw [eqvL_len hl, Bool.and_false])
              simp [a_rs_h, h6, h7, hH, hH2, h1, h2, h3, h4, h5, show ¬ ((x.ops.length : Int) = y.ops.length) by omega]
              exact this _ (by simp)
          · simp [a_rs_h, h6, h7, hH, hH2, h1, h2, h3, h4, h5]
            exact hr (no fun h => h5 h.2.2.2.2) _ (by simp)
        · simp [a_rs_h, h6, h7, hH, hH2, h1, h2, h3, h4]
          exact hr (no fun h => h4 h.2.2.2.1) _ (by simp)
      · simp [a_rs_h, h6, h7, hH, hH2, h1, h2, h3]
        exact hr (no fun h => h3 h.2.2.1) _ (by simp)
    · have h5 : (x.thread == y.thread) = false := by simpa using h2
      simp [a_rs_h, h6, h7, hH, hH2, h1, h2, h5]
      exact hr (no fun h => h2 h.2.1) _ (by simp)
  · simp [a_rs_h, h6, h7, hH, hH2, h1]
    exact hr (no fun h => h1 h.1) _ (by simp)

theorem rs_o (hll : x.ops.length = y.ops.length) (hx : x.Ok) (h6 : A 6 = .mp k 0) (h7 : A 7 = .mp q 0) (h8 : A 8 = i64 0) (hH : H k = some (.blk x.cells)) (hH2 : H q = some (.blk y.cells))
    (hk : eqvL sameOp x.ops y.ops = true → ∀ A', (∀ t ∈ [2, 3, 5], A' t = A t) → onward Tryz.prog fs Q (.exit 2) ⟨A', H, N⟩)
    (hr : eqvL sameOp x.ops y.ops = false → ∀ A', A' 4 = bl false → onward Tryz.prog fs Q .ret ⟨A', H, N⟩) : run Tryz.prog (.loop a_bobbinref29_Sameb1) fs Q ⟨A, H, N⟩ := by
  have hm : maxLen = 9223372036854775807 := rfl
  have := hx.ol
  refine run_loop (fun m s => ∃ i, i ≤ x.ops.length ∧ m = x.ops.length - i ∧ (∀ t ∈ [2, 3, 5, 6, 7], s.A t = A t) ∧ s.A 8 = i64 (i : Nat) ∧ s.H = H ∧ s.N = N ∧ ∀ j (h : j < x.ops.length) (h2 : j < y.ops.length), j < i → sameOp x.ops[j] y.ops[j] = true) x.ops.length ?_ ?_
  · exact ⟨0, by omega, by omega, by simp, h8, rfl, rfl, fun j _ _ h => by omega⟩
  · rintro m A1 H1 N1 ⟨i, hi, rfl, hA, e8, eH, eN, hok⟩
    simp only at hA e8 eH eN
    subst eH
    subst eN
    have e2 := hA 2 (by simp)
    have e3 := hA 3 (by simp)
    have e5 := hA 5 (by simp)
    have e6 := hA 6 (by simp)
    have e7 := hA 7 (by simp)
    by_cases hie : i = x.ops.length
    · have hT : eqvL sameOp x.ops y.ops = true := eqvL_iff.2 ⟨hll, fun j h h2 => hok j h h2 (by omega)⟩
      subst hie
      simp [a_bobbinref29_Sameb1, e6, h6, hH, e8]
      refine hk hT _ ?_
      simp [e2, e3, e5]
    · have hlt : i < x.ops.length := by omega
      have hlt2 : i < y.ops.length := by omega
      obtain ⟨a, ha⟩ : ∃ a, x.ops[i] = a := ⟨_, rfl⟩
      obtain ⟨b, hb⟩ : ∃ b, y.ops[i] = b := ⟨_, rfl⟩
      have hix : aindex 2 (.sl x.k 2 (opsCells x.ops)) (i64 (i : Nat)) = some (.ip a.cells 0) := aindex_sl (by omega) (by simp [opsCells, hlt, ha])
      have hiy : aindex 2 (.sl y.k 2 (opsCells y.ops)) (i64 (i : Nat)) = some (.ip b.cells 0) := aindex_sl (by omega) (by simp [opsCells, hlt2, hb])
      have hw : IntKind.i64.wrap ((i : Int) + 1) = ((i + 1 : Nat) : Int) := by rw [wrap_i64 (by omega) (by omega)]; rfl
      have he := opE_eqs a b
      by_cases hv : sameOp a b = true
      · simp [a_bobbinref29_Sameb1, e6, h6, e7, h7, hH, hH2, e8, hlt, hix, hiy, he, hv, hw, -eqsV]
        refine ⟨x.ops.length - (i + 1), by omega, i + 1, by omega, rfl, by simp [e2, e3, e5, e6, h6, e7, h7], rfl, fun j h h2 hji => ?_⟩
        by_cases hji2 : j = i
        · subst hji2; rw [ha, hb]; exact hv
        · exact hok j h h2 (by omega)
      · have hvf : sameOp a b = false := by simpa using hv
        have hF := eqvL_bad (r := sameOp) hlt hlt2 (by rw [ha, hb]; exact hvf)
        simp [a_bobbinref29_Sameb1, e6, h6, e7, h7, hH, hH2, e8, hlt, hix, hiy, he, hvf, -eqsV]
        exact hr hF _ (by simp)
end

/-- An image's cells and locks as a program. -/
def memsP (m : ImgV) : PrgV := ⟨m.mmk, m.lk, .nil, m.mems, m.locks, []⟩
theorem memsP_cmp {m : ImgV} (hm : m.Ok) : (memsP m).Cmp := ⟨by have := hm.ml; have h : maxLen = 9223372036854775807 := rfl; simp only [memsP]; omega, by have := hm.ll; have h : maxLen = 9223372036854775807 := rfl; simp only [memsP]; omega, Nat.zero_le _, fun f hf => by simp [memsP] at hf, fun f hf => by simp [memsP] at hf⟩

theorem p_rbSame {x y : ImgV} (hx : x.Ok) (hy : y.Ok) : PCall Tryz.prog 10 [.agg x.cells, .agg y.cells] (bl (sameImg x y)) := by
  have hm : maxLen = 9223372036854775807 := rfl
  have hul := hx.ul
  refine PCall.of fun N => acallF mixed c_bobbinref29_Same (by simp) fun hF => ?_
  obtain ⟨B, hB⟩ : ∃ B, sameImg x y = B := ⟨_, rfl⟩
  rw [hB]
  have hP : PCall Tryz.prog 35 [.agg [.sl x.mmk 3 (memCells x.mems), .sl x.lk 1 (lockCells x.locks), .sl .nil 0 []], .agg [.sl y.mmk 3 (memCells y.mems), .sl y.lk 1 (lockCells y.locks), .sl .nil 0 []]] (bl (samePrg (memsP x) (memsP y))) := by
    refine (p_refSame (memsP_cmp hx) (memsP_cmp hy)).nrm ?_
    simp only [memsP, PrgV.cells]
    rfl
  have hS : samePrg (memsP x) (memsP y) = (eqvL memE x.mems y.mems && eqvL strE x.locks y.locks) := by
    unfold samePrg
    rw [show eqvL sameFun (memsP x).funs (memsP y).funs = true from rfl, Bool.and_true]
    rfl
  have hBe : B = (samePrg (memsP x) (memsP y) && eqvL sameU x.units y.units) := by
    rw [← hB, hS]; simp only [sameImg, Bool.and_assoc]
  unfold a_bobbinref29_Same
  obtain ⟨_, q2⟩ : ∃ c, a_bobbinref29_Sameb2 = c := ⟨_, rfl⟩
  rw [q2]
  simp
  refine hP.acall ?_
  cases hp : samePrg (memsP x) (memsP y) with
  | false =>
    have : B = false := by rw [hBe, hp]; rfl
    simp [this]
    exact .free rfl
  | true =>
    rw [hp, Bool.true_and] at hBe
    by_cases hll : x.units.length = y.units.length
    · simp [hll]
      rw [← q2]
      refine run_loop (fun m s => ∃ j, j ≤ x.units.length ∧ m = x.units.length - j ∧ s.A 2 = .ip x.cells 0 ∧ s.A 3 = .ip y.cells 0 ∧ s.A 5 = i64 (j : Nat) ∧ Fresh s.H s.N ∧ ∀ i (h : i < x.units.length) (h2 : i < y.units.length), i < j → sameU x.units[i] y.units[i] = true) x.units.length ?_ ?_
      · exact ⟨0, by omega, by omega, by simp, by simp, by simp, by simpa using hF, fun i _ _ hi => by omega⟩
      · rintro m A1 H1 N1 ⟨j, hj, rfl, e2, e3, e5, hF1, hok⟩
        simp only at e2 e3 e5 hF1
        unfold a_bobbinref29_Sameb2
        obtain ⟨_, eh⟩ : ∃ c, a_rs_h = c := ⟨_, rfl⟩
        rw [eh]
        obtain ⟨_, eo⟩ : ∃ c, a_bobbinref29_Sameb1 = c := ⟨_, rfl⟩
        rw [eo]
        by_cases hjl : j = x.units.length
        · subst hjl
          have : B = true := by rw [hBe]; exact eqvL_iff.2 ⟨hll, fun i h h2 => hok i h h2 h⟩
          simp [e2, e5, this]
          exact .free rfl
        · have hlt : j < x.units.length := by omega
          have hlt2 : j < y.units.length := by omega
          obtain ⟨a, ha⟩ : ∃ a, x.units[j] = a := ⟨_, rfl⟩
          obtain ⟨b, hb⟩ : ∃ b, y.units[j] = b := ⟨_, rfl⟩
          have hao := hx.ok a (by rw [← ha]; exact List.getElem_mem hlt)
          have hix : aindex 6 (.sl x.uk 6 (unitCells x.units)) (i64 (j : Nat)) = some (.ip a.cells 0) := aindex_sl (by omega) (by simp [unitCells, hlt, ha])
          have hiy : aindex 6 (.sl y.uk 6 (unitCells y.units)) (i64 (j : Nat)) = some (.ip b.cells 0) := aindex_sl (by omega) (by simp [unitCells, hlt2, hb])
          have hsx : ∀ z : UnitV, splice 0 z.cells [AV.lit (Value.string ⟨#[]⟩), AV.lit (Value.bool false), AV.lit (Value.int .i64 0), AV.lit (Value.int .i64 0), AV.lit (Value.int .i64 0), AV.sl .nil 0 []] = z.cells := fun z => splice_full (by simp)
          have bad : sameU a b = false → B = false := fun h => by rw [hBe]; exact eqvL_bad hlt hlt2 (by rw [ha, hb]; exact h)
          simp [e2, e3, e5, hlt, hix, hiy, hsx]
          rw [← eh]
          refine rs_h (x := a) (y := b) (k := N1) (q := N1 + 1) hao (by simp) (by simp) (by simp [show N1 ≠ N1 + 1 by omega]) (by simp) (fun d1 d2 d3 d4 d5 d6 A2 hA2 => ?_) (fun hh A2 h4 => ?_)
          · have g2 := hA2 2 (by omega)
            have g3 := hA2 3 (by omega)
            have g5 := hA2 5 (by omega)
            have g6 := hA2 6 (by omega)
            have g7 := hA2 7 (by omega)
            simp [e2, e3, e5] at g2 g3 g5 g6 g7
            simp
            rw [← eo]
            refine rs_o (x := a) (y := b) (k := N1) (q := N1 + 1) d6 hao (by simp [g6]) (by simp [g7]) (by simp) (by simp [show N1 ≠ N1 + 1 by omega]) (by simp) (fun hh A3 hA3 => ?_) (fun hh A3 h4 => ?_)
            · have k2 := hA3 2 (by simp)
              have k3 := hA3 3 (by simp)
              have k5 := hA3 5 (by simp)
              simp [g2, g3, g5] at k2 k3 k5
              simp [k2, k3, k5]
              refine ⟨x.units.length - (j + 1), by omega, j + 1, by omega, rfl, by rw [wrap_i64 (by omega) (by omega)]; rfl, (hF1.set _).set _, fun i h h2 hij => ?_⟩
              by_cases hij2 : i = j
              · subst hij2
                rw [ha, hb]
                simp [sameU, hh, d1, d2, d3, d4, d5]
              · exact hok i h h2 (by omega)
            · have : B = false := bad (by unfold sameU; rw [hh, Bool.and_false])
              simp [h4, this]
              exact .free rfl
          · have : B = false := bad hh
            simp [h4, this]
            exact .free rfl
    · have : B = false := by rw [hBe]; exact eqvL_len hll
      simp [show ¬ ((x.units.length : Int) = y.units.length) by omega, this]
      exact .free rfl
end Go.Proofs.YtefejpckppabpaaGreatDoor
