/- bytes: which images may be, by the program. -/
import Derived.Test.YtefejpckppabpaaGreatDoorW3
namespace Go.Proofs.YtefejpckppabpaaGreatDoor
set_option linter.unusedSimpArgs false
set_option linter.unusedVariables false
open Go Go.Fw

theorem OpV.fr (x : OpV) : freeL x.cells = true := rfl
theorem opsCells_free (l : List OpV) : freeLL (opsCells l) = true := freeLL_map _ l fun x _ => x.fr
theorem UnitV.fr (x : UnitV) : freeL x.cells = true := by simp [UnitV.cells, freeL, AV.free, opsCells_free]
theorem unitCells_free (l : List UnitV) : freeLL (unitCells l) = true := freeLL_map _ l fun x _ => x.fr
theorem ImgV.fr (x : ImgV) : freeL x.cells = true := by simp [ImgV.cells, freeL, AV.free, memCells_free, lockCells_free, unitCells_free]
theorem any_no {α : Type} (l : List α) (p : α → Bool) : (l.map fun x => !p x).any id = !zall l (fun x _ => p x) := by rw [zall_all, any_not]
theorem pc_Contains_Op {k : SK} {l : List OpV} {g : FuncId} {capt : List AV} {p : OpV → Bool} (hl : l.length ≤ 140737488355328) (hg : ∀ x ∈ l, PCall Tryz.prog g (.agg x.cells :: capt) (bl (!p x))) :
    PCall Tryz.prog 22 [.sl k 2 (opsCells l), .fn (.func g) [] capt] (bl (!zall l fun x _ => p x)) := by
  have hm : maxLen = 9223372036854775807 := rfl
  refine PCall.of fun N => (p_ContainsFunc_Op (H := noHeap) (.sl _) (opsCells_sz l) (ts := l.map fun x => !p x) (by simp) (by rw [opsCells_len]; omega) (fun i x b hx hb => ?_) N).mono ?_
  · simp only [opsCells, List.getElem?_map, Option.map_eq_some_iff] at hx hb
    obtain ⟨y, h1, rfl⟩ := hx
    obtain ⟨z, h2, rfl⟩ := hb
    rw [h1] at h2
    cases h2
    exact hg y (List.mem_of_getElem? h1)
  · rintro r H' N' ⟨rfl, _, _⟩
    rw [any_no]
    exact .free rfl
theorem a_bare {f : ImgV} {H : AHeap} {N : Nat} (hl : f.units.length ≤ 1000000000) (hF : Fresh H N) :
    ACall Tryz.prog 21 [.agg f.cells] H N (fun r H' N' => ∃ v, r = .agg [.sl f.mmk 3 (memCells f.mems), .sl f.lk 1 (lockCells f.locks), v] ∧ Built H' N 5 (.sl .nil 0 []) (funCells (f.units.map fun g => bareU g g.params)) v ∧ Fresh H' N' ∧ N ≤ N') := by
  refine acall mixed c_bytes_bare (by simp) ?_
  have hnone : H N = none := hF N (Nat.le_refl _)
  simp [a_bytes_bare]
  refine run_loop (fun m s => ∃ j v, j ≤ f.units.length ∧ m = f.units.length - j ∧ s.A 2 = .mp N 0 ∧ s.A 3 = .mp (N + 1) 0 ∧ s.A 12 = .sl f.uk 6 (unitCells f.units) ∧ s.A 13 = i64 f.units.length ∧ s.A 14 = i64 j ∧ s.H N = some (.blk [.sl .nil 0 [], .sl .nil 0 [], .sl .nil 0 []]) ∧ s.H (N + 1) = some (.blk [.sl f.mmk 3 (memCells f.mems), .sl f.lk 1 (lockCells f.locks), v]) ∧ Built s.H (N + 2) 5 (.sl .nil 0 []) (funCells ((f.units.map fun g => bareU g g.params).take j)) v ∧ Fresh s.H s.N ∧ N + 2 ≤ s.N) f.units.length ?_ ?_
  · refine ⟨0, .sl .nil 0 [], by omega, by omega, by simp, by simp, by simp, by simp, by simp, by simp, by simp, Built.nil, ?_, by simp⟩
    exact (hF.set _).set _
  · rintro m A1 H1 N1 ⟨j, v, hj, rfl, e2, e3, e12, e13, e14, h2, h3, hB, hF1, hN1⟩
    simp only at e2 e3 e12 e13 e14 h2 h3 hB hF1 hN1
    have hw : IntKind.i64.wrap ((j : Int) + 1) = ((j + 1 : Nat) : Int) := by rw [wrap_i64 (by omega) (by omega)]; rfl
    by_cases hje : j = f.units.length
    · subst hje
      rw [show f.units.length = (f.units.map fun g => bareU g g.params).length by simp, List.take_length] at hB
      simp [a_bytes_bareb1, e2, e3, e13, e14, h2, h3]
      refine ⟨?_, fresh_rewr hF1 h2, by omega⟩
      obtain ⟨b1, b2⟩ := hB
      refine ⟨b1, b2.imp id ?_⟩
      rintro ⟨hne, id, hid, rfl, hH⟩
      exact ⟨hne, id, by omega, rfl, by simp only [AHeap.set]; rw [if_neg (by omega)]; exact hH⟩
    · have hlt : j < f.units.length := by omega
      obtain ⟨g, hg⟩ : ∃ g, f.units[j] = g := ⟨_, rfl⟩
      have hix : aindex 6 (.sl f.uk 6 (unitCells f.units)) (i64 (j : Nat)) = some (.ip g.cells 0) := aindex_sl (by omega) (by simp [unitCells, hlt, hg])
      have hsx : splice 0 g.cells [AV.lit (Value.string ⟨#[]⟩), AV.lit (Value.bool false), AV.lit (Value.int .i64 0), AV.lit (Value.int .i64 0), AV.lit (Value.int .i64 0), AV.sl .nil 0 []] = g.cells := splice_full (by simp)
      have hB1 := built_later (H' := H1.set N1 (.blk g.cells)) hB hF1 (fun i hi => by simp only [AHeap.set]; rw [if_neg (by omega)])
      have hF2 : Fresh (H1.set N1 (.blk g.cells)) (N1 + 1) := hF1.set _
      obtain ⟨v', H2, N2, happ, hB2, hlow, hN2, hF3⟩ := hB1.push (N := N1 + 1) (bytes := 64) (k := .exact) (x := (bareU g g.params).cells) hF2 (by omega) (by simp) (by simp [lim]; omega) (by simp; omega)
      have hvc := hB1.rd.cells
      have hvc2 := hB2.rd.cells
      have hrow : [AV.lit (Value.string g.name), AV.lit (Value.bool g.thread), AV.lit (Value.int .i64 g.params), AV.lit (Value.int .i64 g.params), AV.sl .exact 6 [[AV.lit (Value.int .u8 11), AV.lit (Value.int .i64 0), AV.lit (Value.int .i64 0), AV.lit (Value.int .i64 0), AV.lit (Value.int .i64 0), .sl .nil 0 []]]] = (bareU g g.params).cells := rfl
      rw [← hrow] at happ
      have hold2 : H2 N = some (.blk [.sl .nil 0 [], .sl .nil 0 [], .sl .nil 0 []]) := by rw [hlow N (by omega)]; simp only [AHeap.set]; rw [if_neg (by omega)]; exact h2
      have hold3 : H2 (N + 1) = some (.blk [.sl f.mmk 3 (memCells f.mems), .sl f.lk 1 (lockCells f.locks), v]) := by rw [hlow (N + 1) (by omega)]; simp only [AHeap.set]; rw [if_neg (by omega)]; exact h3
      simp [a_bytes_bareb1, e2, e3, e12, e13, e14, hlt, hix, hsx, h3, show ¬ N + 1 = N1 by omega, happ, hvc, hvc2, hold2, hold3, hw, -AV.cells]
      refine ⟨f.units.length - (j + 1), by omega, j + 1, by omega, rfl, by omega, ?_, fresh_rewr hF3 hold3, by omega⟩
      have htk : funCells ((f.units.map fun g => bareU g g.params).take (j + 1)) = funCells ((f.units.map fun g => bareU g g.params).take j) ++ [(bareU g g.params).cells] := by
        rw [take_next (by simpa using hlt)]
        simp [funCells, hg]
      rw [htk]
      obtain ⟨b1, b2⟩ := hB2
      refine ⟨b1, b2.imp id ?_⟩
      rintro ⟨hne, id, hid, rfl, hH⟩
      exact ⟨hne, id, hid, rfl, by simp only [AHeap.set]; rw [if_neg (by omega)]; exact hH⟩


theorem p_May1 {m : ImgV} {u : UnitV} {o : OpV} (h0 : 0 ≤ o.code) (h1 : o.code < 256) : PCall Tryz.prog 23 [.agg o.cells, .ip m.cells 0, .ip u.cells 0] (bl (!namB m u o)) := by
  refine PCall.of fun N => acall mixed c_bytes_May_1 (by simp) ?_
  simp [a_bytes_May_1]
  refine (p_known h0 h1).acall ?_
  by_cases hk : 1 ≤ o.code ∧ o.code < 15
  · rw [decide_eq_true hk]
    simp
    refine (p_names (m := m) (u := u) hk).acall ?_
    simp
    exact .free rfl
  · have hn : namB m u o = false := by
      cases hq : namB m u o with
      | false => rfl
      | true => exact absurd (namB_op hq) hk
    rw [decide_eq_false hk, hn]
    simp
    exact .free rfl

section
variable {m : ImgV} {u : UnitV} {k : Nat} {A : Nat → AV} {H : AHeap} {N : Nat} {fs : List Fr} {Q : Post}
theorem bm_h (h4 : A 4 = .mp k 0) (hk0 : H k = some (.blk u.cells)) (h5 : A 5 = i64 u.ops.length)
    (hk : headU u = true → ∀ A', (∀ t ∈ [1, 4, 5, 14, 15, 16], A' t = A t) → onward Tryz.prog fs Q .normal ⟨A', H, N⟩)
    (hr : headU u = false → ∀ A', A' 2 = bl false → onward Tryz.prog fs Q .ret ⟨A', H, N⟩) : run Tryz.prog a_bm_h fs Q ⟨A, H, N⟩ := by
  have no : ¬ (u.params ≤ u.slots ∧ u.slots ≤ 65536 ∧ 0 ≤ u.depth ∧ u.depth ≤ 65536 ∧ 1 ≤ u.ops.length ∧ u.ops.length ≤ 524288) → headU u = false := fun h => decide_eq_false h
  by_cases c1 : u.slots < u.params
  · simp [a_bm_h, h4, hk0, h5, c1]
    exact hr (no (by omega)) _ (by simp)
  by_cases c2 : 65536 < u.slots
  · simp [a_bm_h, h4, hk0, h5, c1, c2]
    exact hr (no (by omega)) _ (by simp)
  by_cases c3 : u.depth < 0
  · simp [a_bm_h, h4, hk0, h5, c1, c2, c3]
    exact hr (no (by omega)) _ (by simp)
  by_cases c4 : 65536 < u.depth
  · simp [a_bm_h, h4, hk0, h5, c1, c2, c3, c4]
    exact hr (no (by omega)) _ (by simp)
  by_cases c5 : (u.ops.length : Int) < 1
  · simp [a_bm_h, h4, hk0, h5, c1, c2, c3, c4, c5]
    exact hr (no (by omega)) _ (by simp)
  by_cases c6 : (524288 : Int) < u.ops.length
  · simp [a_bm_h, h4, hk0, h5, c1, c2, c3, c4, c5, c6]
    exact hr (no (by omega)) _ (by simp)
  simp [a_bm_h, h4, hk0, h5, c1, c2, c3, c4, c5, c6]
  refine hk (decide_eq_true ⟨by omega, by omega, by omega, by omega, by omega, by omega⟩) _ ?_
  simp [h4, h5]

theorem bm_c (hu : u.Ok) (h1 : A 1 = .ip m.cells 0) (h4 : A 4 = .mp k 0) (hk0 : H k = some (.blk u.cells))
    (hk : (zall u.ops fun o _ => namB m u o) = true → ∀ A', (∀ t ∈ [1, 4, 5, 14, 15, 16], A' t = A t) → onward Tryz.prog fs Q .normal ⟨A', H, N⟩)
    (hr : (zall u.ops fun o _ => namB m u o) = false → ∀ A', A' 2 = bl false → onward Tryz.prog fs Q .ret ⟨A', H, N⟩) : run Tryz.prog a_bm_c fs Q ⟨A, H, N⟩ := by
  have hP := pc_Contains_Op (k := u.k) (l := u.ops) (p := namB m u) (g := 23) (capt := [.ip m.cells 0, .ip u.cells 0]) hu.ol (fun o ho => p_May1 (hu.op o ho).1 (hu.op o ho).2)
  simp [a_bm_c, h1, h4, hk0]
  refine PCall.seen hP rfl (views (.cons (.free (by simp [AV.free, opsCells_free])) (.cons (.fn' .nil (.cons (.free (by simp [AV.free, m.fr])) (.cons ?_ .nil))) .nil))) ?_
  · have vl : ViewL H u.cells u.cells := ViewL.refl u.fr
    exact View.mp hk0 vl.1 vl.2
  · cases hz : (zall u.ops fun o _ => namB m u o) with
    | true =>
      simp
      refine hk hz _ ?_
      simp [h1, h4]
    | false =>
      simp
      exact hr hz _ (by simp)

theorem bm_l (hl : 1 ≤ u.ops.length) (hl2 : u.ops.length ≤ 524288) (h4 : A 4 = .mp k 0) (hk0 : H k = some (.blk u.cells)) (h5 : A 5 = i64 u.ops.length)
    (hk : lastB2 u = true → ∀ A', (∀ t ∈ [1, 4, 14, 15, 16], A' t = A t) → onward Tryz.prog fs Q .normal ⟨A', H, N⟩)
    (hr : lastB2 u = false → ∀ A', A' 2 = bl false → onward Tryz.prog fs Q .ret ⟨A', H, N⟩) : run Tryz.prog a_bm_l fs Q ⟨A, H, N⟩ := by
  have hlt : u.ops.length - 1 < u.ops.length := by omega
  obtain ⟨o, ho⟩ : ∃ o, u.ops[u.ops.length - 1] = o := ⟨_, rfl⟩
  have hsub : IntKind.i64.wrap ((u.ops.length : Int) - 1) = ((u.ops.length - 1 : Nat) : Int) := by rw [wrap_i64 (by omega) (by omega)]; omega
  have hix : aindex 2 (.sl u.k 2 (opsCells u.ops)) (i64 ((u.ops.length - 1 : Nat) : Int)) = some (.ip o.cells 0) := aindex_sl (by omega) (by simp only [Int.toNat_natCast, opsCells, List.getElem?_map, List.getElem?_eq_getElem hlt, Option.map_some, ho])
  have hlast : lastB2 u = decide (o.code = 12 ∨ o.code = 14) := by
    unfold lastB2
    rw [List.getLast?_eq_getElem?, List.getElem?_eq_getElem hlt, ho]
  rw [hlast] at hk hr
  by_cases c1 : o.code = 12
  · simp [a_bm_l, h4, hk0, h5, hsub, hix, c1]
    refine hk (by simp [c1]) _ ?_
    simp [h4]
  · by_cases c2 : o.code = 14
    · simp [a_bm_l, h4, hk0, h5, hsub, hix, c2]
      refine hk (by simp [c2]) _ ?_
      simp [h4]
    · simp [a_bm_l, h4, hk0, h5, hsub, hix, c1, c2]
      exact hr (by simp [c1, c2]) _ (by simp)
end

theorem p_bMay {m : ImgV} (hm : m.Ok) (ht : m.mems.length + m.locks.length + m.units.length ≤ 1000000000) : PCall Tryz.prog 7 [.agg m.cells] (bl (imgB m)) := by
  refine PCall.of fun N => acallF mixed c_bytes_May (by simp) fun hF => ?_
  obtain ⟨B, hB⟩ : ∃ B, imgB m = B := ⟨_, rfl⟩
  rw [hB]
  unfold imgB at hB
  have hPm : PCall Tryz.prog 20 [.agg [.sl m.mmk 3 (memCells m.mems), .sl m.lk 1 (lockCells m.locks), bsl (.sl .nil 0 []) 5 (funCells (m.units.map fun g => bareU g g.params))]] (bl (prgB (bareM m))) := by
    refine (p_May (bareM_fit hm ht)).nrm ?_
    by_cases h0 : m.units = []
    · simp only [bareM, PrgV.cells, h0, if_true]
      rfl
    · simp only [bareM, PrgV.cells, if_neg h0]
      cases hq : m.units with
      | nil => exact absurd hq h0
      | cons g r => rfl
  unfold a_bytes_May
  obtain ⟨_, e1⟩ : ∃ c, a_bytes_Mayb1 = c := ⟨_, rfl⟩
  rw [e1]
  simp
  refine (a_bare (by omega) hF).mono ?_
  rintro r H1 N1 ⟨v, rfl, hBv, hF1, hN1⟩
  have hvc := hBv.rd.cells
  simp [-AV.cells]
  refine PCall.seen hPm rfl (views (.cons (.agg' (.cons (.free (by simp [AV.free, memCells_free])) (.cons (.free (by simp [AV.free, lockCells_free])) (.cons (hBv.view (funCells_free _)) .nil)))) .nil)) ?_
  cases hp : prgB (bareM m) with
  | false =>
    rw [hp, Bool.false_and] at hB
    simp [← hB]
    exact .free rfl
  | true =>
    rw [hp, Bool.true_and] at hB
    have hpar := bareM_params hp
    simp [-AV.cells]
    rw [← e1]
    refine run_loop (fun w s => ∃ j, j ≤ m.units.length ∧ w = m.units.length - j ∧ s.A 1 = .ip m.cells 0 ∧ s.A 14 = .sl m.uk 6 (unitCells m.units) ∧ s.A 15 = i64 m.units.length ∧ s.A 16 = i64 j ∧ ∀ i (hi : i < m.units.length), i < j → unitB m m.units[i] = true) m.units.length ?_ ?_
    · exact ⟨0, by omega, by omega, by simp, by simp, by simp, by simp, fun i _ h => by omega⟩
    · rintro w A2 H2 N2 ⟨j, hj, rfl, f1, f14, f15, f16, hok⟩
      simp only at f1 f14 f15 f16
      have hw : IntKind.i64.wrap ((j : Int) + 1) = ((j + 1 : Nat) : Int) := by
        have := hm.ul
        rw [wrap_i64 (by omega) (by omega)]; rfl
      by_cases hje : j = m.units.length
      · subst hje
        have : B = true := by rw [← hB]; exact zall_iff.2 fun i hi => hok i hi hi
        simp [a_bytes_Mayb1, f15, f16, this]
        exact .free rfl
      · have hlt : j < m.units.length := by omega
        obtain ⟨u, hu⟩ : ∃ u, m.units[j] = u := ⟨_, rfl⟩
        have huo := hm.ok u (by rw [← hu]; exact List.getElem_mem hlt)
        have hix : aindex 6 (.sl m.uk 6 (unitCells m.units)) (i64 (j : Nat)) = some (.ip u.cells 0) := aindex_sl (by omega) (by simp [unitCells, hlt, hu])
        have hsx : splice 0 u.cells [AV.lit (Value.string ⟨#[]⟩), AV.lit (Value.bool false), AV.lit (Value.int .i64 0), AV.lit (Value.int .i64 0), AV.lit (Value.int .i64 0), AV.sl .nil 0 []] = u.cells := splice_full (by simp)
        have bad : unitB m u = false → B = false := fun h => by rw [← hB]; exact zall_bad hlt (by rw [hu]; exact h)
        unfold a_bytes_Mayb1
        obtain ⟨_, q1⟩ : ∃ c, a_bm_h = c := ⟨_, rfl⟩
        rw [q1]
        obtain ⟨_, q2⟩ : ∃ c, a_bm_c = c := ⟨_, rfl⟩
        rw [q2]
        obtain ⟨_, q3⟩ : ∃ c, a_bm_l = c := ⟨_, rfl⟩
        rw [q3]
        simp [f1, f14, f15, f16, hlt, hix, hsx]
        rw [← q1]
        refine bm_h (u := u) (k := N2) ?_ ?_ ?_ (fun hh A3 hA3 => ?_) (fun hh A3 k2 => ?_)
        · simp
        · simp
        · simp
        rotate_left
        · have : B = false := bad (by unfold unitB fitU; rw [hh]; rfl)
          simp [k2, this]
          exact .free rfl
        have g1 := hA3 1 (by simp)
        have g4 := hA3 4 (by simp)
        have g5 := hA3 5 (by simp)
        have g14 := hA3 14 (by simp)
        have g15 := hA3 15 (by simp)
        have g16 := hA3 16 (by simp)
        simp [f1, f14, f15, f16] at g1 g4 g5 g14 g15 g16
        simp
        rw [← q2]
        refine bm_c (m := m) (u := u) (k := N2) huo (by simp [g1]) (by simp [g4]) (by simp) (fun hc A4 hA4 => ?_) (fun hc A4 k2 => ?_)
        rotate_left
        · have : B = false := bad (by unfold unitB fitU; rw [hc]; simp)
          simp [k2, this]
          exact .free rfl
        have j1 := hA4 1 (by simp)
        have j4 := hA4 4 (by simp)
        have j5 := hA4 5 (by simp)
        have j14 := hA4 14 (by simp)
        have j15 := hA4 15 (by simp)
        have j16 := hA4 16 (by simp)
        simp [g1, g4, g5, g14, g15, g16] at j1 j4 j5 j14 j15 j16
        have hl1 : 1 ≤ u.ops.length ∧ u.ops.length ≤ 524288 := by
          simp only [headU, decide_eq_true_eq] at hh
          exact ⟨hh.2.2.2.2.1, hh.2.2.2.2.2⟩
        simp
        rw [← q3]
        refine bm_l (u := u) (k := N2) hl1.1 hl1.2 (by simp [j4]) (by simp) (by simp [j5]) (fun hl A5 hA5 => ?_) (fun hl A5 k2 => ?_)
        rotate_left
        · have : B = false := bad (by unfold unitB fitU; rw [hl]; simp)
          simp [k2, this]
          exact .free rfl
        have l1 := hA5 1 (by simp)
        have l4 := hA5 4 (by simp)
        have l14 := hA5 14 (by simp)
        have l15 := hA5 15 (by simp)
        have l16 := hA5 16 (by simp)
        simp [j1, j4, j14, j15, j16] at l1 l4 l14 l15 l16
        have hfit : fitU m u = true := by unfold fitU; rw [hh, hc, hl]; rfl
        simp [a_bm_g, l1, l4]
        refine (p_heights ⟨hfit, hpar⟩).acall ?_
        cases hgd : (stkB m u).goodB with
        | false =>
          have : B = false := bad (by unfold unitB; rw [hgd]; simp)
          simp [htV, hgd, this]
          exact .free rfl
        | true =>
          simp [htV, hgd, l1, l14, l15, l16, hw]
          refine ⟨m.units.length - (j + 1), by omega, j + 1, by omega, rfl, rfl, fun i hi hij => ?_⟩
          by_cases hij2 : i = j
          · subst hij2; rw [hu]; unfold unitB; rw [hfit, hgd]; rfl
          · exact hok i hi (by omega)
end Go.Proofs.YtefejpckppabpaaGreatDoor

/- bytes: Heights and Same, by the program. -/
namespace Go.Proofs.YtefejpckppabpaaGreatDoor
set_option linter.unusedSimpArgs false
set_option linter.unusedVariables false
open Go Go.Fw

noncomputable def htL (m : ImgV) (n : Int) : List Int := match m.units[n.toNat]? with
  | some u => (stkB m u).outL
  | none => []
/-- What Heights hand out. -/
noncomputable def htAns (m : ImgV) (n : Int) : AV := if (imgB m && within n m.units.length) = true then .tup [.sl .any 1 (intCells (htL m n)), i64 0] else .tup [.sl .nil 0 [], i64 4]
theorem imgB_unit {m : ImgV} (h : imgB m = true) {u : UnitV} (hu : u ∈ m.units) : HtOk m u ∧ (stkB m u).goodB = true := by
  simp only [imgB, Bool.and_eq_true] at h
  obtain ⟨i, hi, rfl⟩ := List.getElem_of_mem hu
  have := zall_iff.1 h.2 i hi
  simp only [unitB, Bool.and_eq_true] at this
  exact ⟨⟨this.1, bareM_params h.1⟩, this.2⟩

theorem p_bHeights {m : ImgV} {n : Int} (hm : m.Ok) (ht : m.mems.length + m.locks.length + m.units.length ≤ 1000000000) : PCall Tryz.prog 11 [.agg m.cells, i64 n] (htAns m n) := by
  refine PCall.of fun N => acall mixed c_bytes_Heights (by simp) ?_
  simp [a_bytes_Heights]
  refine (p_bMay hm ht).acall ?_
  cases hi : imgB m with
  | false =>
    have : htAns m n = .tup [.sl .nil 0 [], i64 4] := by unfold htAns; rw [hi]; rfl
    simp [this]
    exact .free rfl
  | true =>
    by_cases h1 : n < 0
    · have : htAns m n = .tup [.sl .nil 0 [], i64 4] := by
        unfold htAns
        rw [if_neg (by simp [within]; omega)]
      simp [h1, this]
      exact .free rfl
    · by_cases h2 : (m.units.length : Int) ≤ n
      · have : htAns m n = .tup [.sl .nil 0 [], i64 4] := by
          unfold htAns
          rw [if_neg (by simp [within]; omega)]
        simp [h1, h2, this]
        exact .free rfl
      · obtain ⟨u, hu⟩ : ∃ u, m.units[n.toNat]? = some u := ⟨m.units[n.toNat]'(by omega), by simp [show n.toNat < m.units.length by omega]⟩
        have hix : aindex 6 (.sl m.uk 6 (unitCells m.units)) (i64 n) = some (.ip u.cells 0) := aindex_sl (by omega) (unitCells_at hu)
        obtain ⟨hO, hg⟩ := imgB_unit hi (List.mem_of_getElem? hu)
        have : htAns m n = .tup [.sl .any 1 (intCells (stkB m u).outL), i64 0] := by
          unfold htAns
          rw [if_pos (by rw [hi]; simp [within]; omega)]
          unfold htL
          rw [hu]
        simp [h1, h2, hix]
        refine (p_heights hO).acall ?_
        simp [htV, hg, this]
        exact .free (by simp [AV.free, freeL, intCells_free])

theorem p_bSame1 {x y : UnitV} (hx : x.Ok) : PCall Tryz.prog 33 [.agg x.cells, .agg y.cells] (bl (sameU x y)) := by
  have hm : maxLen = 9223372036854775807 := rfl
  have := hx.ol
  refine PCall.of fun N => acall mixed c_bytes_Same_1 (by simp) ?_
  obtain ⟨B, hB⟩ : ∃ B, sameU x y = B := ⟨_, rfl⟩
  rw [hB]
  have no : ¬ (x.name = y.name ∧ x.thread = y.thread ∧ x.params = y.params ∧ x.slots = y.slots ∧ x.depth = y.depth) → B = false := fun h => by rw [← hB]; simp only [sameU, h, decide_false, Bool.false_and]
  by_cases h1 : x.name = y.name
  · by_cases h2 : x.thread = y.thread
    · by_cases h3 : x.params = y.params
      · by_cases h4 : x.slots = y.slots
        · by_cases h5 : x.depth = y.depth
          · have : B = eqvL sameOp x.ops y.ops := by rw [← hB]; simp only [sameU, h1, h2, h3, h4, h5, and_self, decide_true, Bool.true_and]
            simp [a_bytes_Same_1, h1, h2, h3, h4, h5]
            refine (p_Equal_Op (la := x.ops) (lb := y.ops) (.sl _) (.sl _) (by omega) N).mono ?_
            rintro r H' N' ⟨rfl, rfl, rfl⟩
            simp [← this]
            exact .free rfl
          · have := no (fun h => h5 h.2.2.2.2)
            simp [a_bytes_Same_1, h1, h2, h3, h4, h5, this]; exact .free rfl
        · have := no (fun h => h4 h.2.2.2.1)
          simp [a_bytes_Same_1, h1, h2, h3, h4, this]; exact .free rfl
      · have := no (fun h => h3 h.2.2.1)
        simp [a_bytes_Same_1, h1, h2, h3, this]; exact .free rfl
    · have := no (fun h => h2 h.2.1)
      have h5 : (x.thread == y.thread) = false := by simpa using h2
      simp [a_bytes_Same_1, h1, h2, h5, this]; exact .free rfl
  · have := no (fun h => h1 h.1)
    simp [a_bytes_Same_1, h1, this]; exact .free rfl

theorem p_bSame {p q : ImgV} (hp : p.Ok) (hq : q.Ok) : PCall Tryz.prog 9 [.agg p.cells, .agg q.cells] (bl (sameImg p q)) := by
  have hmx : maxLen = 9223372036854775807 := rfl
  have := hp.ml
  have := hp.ll
  have := hp.ul
  refine PCall.of fun N => acall mixed c_bytes_Same (by simp) ?_
  obtain ⟨B, hB⟩ : ∃ B, sameImg p q = B := ⟨_, rfl⟩
  rw [hB]
  have hls : ∀ l : List ByteArray, lockCells l = strCells l := fun _ => rfl
  simp [a_bytes_Same]
  refine (p_Equal_Mem (la := p.mems) (lb := q.mems) (.sl _) (.sl _) (by omega) N).mono ?_
  rintro r H1 N1 ⟨rfl, rfl, rfl⟩
  by_cases hm : eqvL memE p.mems q.mems = true
  · simp [hm, hls]
    refine (p_Equal_string (la := p.locks) (lb := q.locks) (.sl _) (.sl _) (by omega) _).mono ?_
    rintro r H2 N2 ⟨rfl, rfl, rfl⟩
    by_cases hs : eqvL strE p.locks q.locks = true
    · simp [hs]
      have : B = eqvL sameU p.units q.units := by rw [← hB]; simp only [sameImg, hm, hs, Bool.true_and]
      refine (p_EqualFunc_Unit (r := sameU) (by omega) (fun f hf g hg => p_bSame1 (hp.ok f hf))).acall ?_
      simp [← this]
      exact .free rfl
    · have : B = false := by rw [← hB]; simp [sameImg, hs]
      simp [hs, this]; exact .free rfl
  · have : B = false := by rw [← hB]; simp [sameImg, hm]
    simp [hm, this]; exact .free rfl
end Go.Proofs.YtefejpckppabpaaGreatDoor
