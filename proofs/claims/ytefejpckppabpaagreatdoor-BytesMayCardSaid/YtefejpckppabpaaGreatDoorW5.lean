/- bytes: what operations name, pop and push, by the reference. -/
import Derived.Test.YtefejpckppabpaaGreatDoorW4
import Derived.Test.YtefejpckppabpaaGreatDoorKR
namespace Go.Proofs.YtefejpckppabpaaGreatDoor
set_option linter.unusedSimpArgs false
set_option linter.unusedVariables false
open Go Go.Fw

theorem p_rPops {m : ImgV} {o : OpV} (h : isOp o) (hu : o.code = 11 → within o.n m.units.length = true) : PCall Tryz.prog 18 [.agg m.cells, .agg o.cells] (i64 (popB m o)) := by
  refine PCall.of fun N => acall mixed c_bobbinref29_Pops (by simp) ?_
  have hc := isOp_cases h
  rcases hc with hc | hc | hc | hc | hc | hc | hc | hc | hc | hc | hc | hc | hc | hc
  rotate_left 10
  · have hb : 0 ≤ o.n ∧ o.n < m.units.length := by simpa [within] using hu hc
    obtain ⟨v, hv⟩ : ∃ v, m.units[o.n.toNat]? = some v := ⟨m.units[o.n.toNat]'(by omega), by simp [show o.n.toNat < m.units.length by omega]⟩
    have hix : aindex 6 (.sl m.uk 6 (unitCells m.units)) (i64 o.n) = some (.ip v.cells 0) := aindex_sl hb.1 (unitCells_at hv)
    have hp : popB m o = v.params := by unfold popB; rw [if_pos hc, hv]
    simp [a_bobbinref29_Pops, hc, hix, hp]; exact .free rfl
  all_goals
    simp [a_bobbinref29_Pops, hc, popB]
    exact .free rfl

theorem p_rPushes {o : OpV} (h : isOp o) : PCall Tryz.prog 19 [.agg o.cells] (i64 (pushB o)) := by
  refine PCall.of fun N => acall mixed c_bobbinref29_Pushes (by simp) ?_
  have hc := isOp_cases h
  rcases hc with hc | hc | hc | hc | hc | hc | hc | hc | hc | hc | hc | hc | hc | hc
  all_goals
    simp [a_bobbinref29_Pushes, hc, pushB]
    exact .free rfl

theorem p_rWithin (n most : Int) : PCall Tryz.prog 36 [i64 n, i64 most] (bl (within n most)) := by
  refine PCall.of fun N => acall mixed c_bobbinref29_within (by simp) ?_
  by_cases h2 : 0 ≤ n
  · by_cases h3 : n < most
    · simp [a_bobbinref29_within, h2, h3, within]; exact .free rfl
    · simp [a_bobbinref29_within, h2, h3, within]; exact .free rfl
  · simp [a_bobbinref29_within, h2, within]; exact .free rfl

theorem p_rNamed {m : ImgV} {u : UnitV} {o : OpV} : PCall Tryz.prog 28 [.agg m.cells, .agg u.cells, .agg o.cells] (bl (namB m u o)) := by
  refine PCall.of fun N => acall mixed c_bobbinref29_named (by simp) ?_
  obtain ⟨B, hB⟩ : ∃ B, namB m u o = B := ⟨_, rfl⟩
  rw [hB]
  unfold namB at hB
  by_cases hop : isOp o
  rotate_left
  · have hne : ∀ k : Int, 1 ≤ k → k < 15 → ¬ o.code = k := fun k h1 h2 e => hop (by unfold isOp; omega)
    have n1 := hne 1 (by omega) (by omega)
    have n2 := hne 2 (by omega) (by omega)
    have n3 := hne 3 (by omega) (by omega)
    have n4 := hne 4 (by omega) (by omega)
    have n5 := hne 5 (by omega) (by omega)
    have n6 := hne 6 (by omega) (by omega)
    have n7 := hne 7 (by omega) (by omega)
    have n8 := hne 8 (by omega) (by omega)
    have n9 := hne 9 (by omega) (by omega)
    have n10 := hne 10 (by omega) (by omega)
    have n11 := hne 11 (by omega) (by omega)
    have n12 := hne 12 (by omega) (by omega)
    have n13 := hne 13 (by omega) (by omega)
    have n14 := hne 14 (by omega) (by omega)
    simp [n1, n2, n3, n4, n5, n6, n7, n8, n9, n10, n11, n12, n13, n14] at hB
    subst hB
    simp [a_bobbinref29_named, n1, n2, n3, n4, n5, n6, n7, n8, n9, n10, n11, n12, n13, n14]
    exact .free rfl
  have hc := isOp_cases hop
  have lit : ∀ n : Int, within o.n n = B → PCall Tryz.prog 36 [i64 o.n, i64 n] (bl B) := fun n hn => by rw [← hn]; exact p_rWithin o.n n
  rcases hc with hc | hc | hc | hc | hc | hc | hc | hc | hc | hc | hc | hc | hc | hc
  · simp [hc] at hB
    subst hB
    simp [a_bobbinref29_named, hc]
    exact .free rfl
  · simp [hc] at hB
    simp [a_bobbinref29_named, hc]
    refine (lit _ hB).acall ?_
    simp
    exact .free rfl
  · simp [hc] at hB
    simp [a_bobbinref29_named, hc]
    refine (lit _ hB).acall ?_
    simp
    exact .free rfl
  · simp [hc] at hB
    by_cases h5 : o.n = 5
    · simp [a_bobbinref29_named, hc, h5, ← hB]; exact .free rfl
    · simp [a_bobbinref29_named, hc, h5, ← hB]; exact .free rfl
  · simp [hc] at hB
    by_cases h5 : 7 ≤ o.n
    · simp [a_bobbinref29_named, hc, h5, ← hB]; exact .free rfl
    · simp [a_bobbinref29_named, hc, h5, ← hB]; exact .free rfl
  · simp [hc] at hB
    simp [a_bobbinref29_named, hc]
    refine (lit _ hB).acall ?_
    simp
    exact .free rfl
  · simp [hc] at hB
    simp [a_bobbinref29_named, hc]
    refine (lit _ hB).acall ?_
    simp
    exact .free rfl
  · simp [hc] at hB
    simp [a_bobbinref29_named, hc]
    refine (lit _ hB).acall ?_
    simp
    exact .free rfl
  · simp [hc] at hB
    simp [a_bobbinref29_named, hc]
    refine (lit _ hB).acall ?_
    simp
    exact .free rfl
  · simp [hc] at hB
    simp [a_bobbinref29_named, hc, ← hB]
    exact .free rfl
  · simp only [hc] at hB
    simp at hB
    simp [a_bobbinref29_named, hc]
    refine (p_rWithin o.n m.units.length).acall ?_
    cases hw : within o.n m.units.length with
    | false =>
      rw [hw, Bool.false_and] at hB
      simp [← hB]
      exact .free rfl
    | true =>
      rw [hw, Bool.true_and] at hB
      have hb : 0 ≤ o.n ∧ o.n < m.units.length := by simpa [within] using hw
      obtain ⟨v, hv⟩ : ∃ v, m.units[o.n.toNat]? = some v := ⟨m.units[o.n.toNat]'(by omega), by simp [show o.n.toNat < m.units.length by omega]⟩
      have hix : aindex 6 (.sl m.uk 6 (unitCells m.units)) (i64 o.n) = some (.ip v.cells 0) := aindex_sl hb.1 (unitCells_at hv)
      rw [hv] at hB
      simp [hix, ← hB]
      exact .free rfl
  · simp [hc] at hB
    simp [a_bobbinref29_named, hc]
    refine (lit _ hB).acall ?_
    simp
    exact .free rfl
  · simp [hc] at hB
    simp [a_bobbinref29_named, hc]
    refine (lit _ hB).acall ?_
    simp
    exact .free rfl
  · simp [hc] at hB
    simp [a_bobbinref29_named, hc, ← hB]
    exact .free rfl
end Go.Proofs.YtefejpckppabpaaGreatDoor

/- bytes: heights, by the reference: parts. -/
namespace Go.Proofs.YtefejpckppabpaaGreatDoor
set_option linter.unusedSimpArgs false
set_option linter.unusedVariables false
open Go Go.Fw

/-- Heights, and what is done, in memory. -/
structure RtS (oo dd : Nat) (out : List Int) (dn : List Bool) (H : AHeap) (N : Nat) : Prop where
  at_ : H oo = some (.blk (out.map i64))
  dat : H dd = some (.blk (dn.map bl))
  F : Fresh H N
  lt : oo < dd
  ltN : dd < N

section
variable {m : ImgV} {u : UnitV} {oo dd : Nat} {A : Nat → AV} {H : AHeap} {N : Nat} {fs : List Fr} {Q : Post} {out : List Int} {dn : List Bool} {v13 : AV} {D : Nat → Prop} {a : Nat} {va : Int} {Nb : Nat}

theorem rt_b1 (hO : HtOk m u) (hS : RtS oo dd out dn H N) (hP : (stkB m u).RN a va out D 0) (ha : a < u.ops.length) (hNb : dd < Nb) (hx : OwnT H Nb v13 (nx1 u.ops[a] a ++ nx2 u.ops[a]))
    (h6 : A 6 = .ms oo 0 u.ops.length 1) (h12 : A 12 = i64 (va - popB m u.ops[a] + pushB u.ops[a])) (h13 : A 13 = v13) (h14 : A 14 = i64 0)
    (hk : ∀ A' H' N' out', (∀ t ∈ [2, 3, 6, 8, 9, 10], A' t = A t) → RtS oo dd out' dn H' N' → (stkB m u).Way out' (fun x => D x ∨ x = a) → onward Tryz.prog fs Q (.exit 6) ⟨A', H', N'⟩)
    (hr : (stkB m u).goodB = false → ∀ A' H' N', A' 4 = .sl .nil 0 [] → A' 5 = bl false → onward Tryz.prog fs Q .ret ⟨A', H', N'⟩) : run Tryz.prog (.loop a_bobbinref29_heightsb1) fs Q ⟨A, H, N⟩ := by
  obtain ⟨hl1, hl2, hd1, hd2⟩ := hO.len
  have hk0 := stkB_ok hO.fit
  have hnx : ((stkB m u).nx a).map (fun b : Nat => (b : Int)) = nx1 u.ops[a] a ++ nx2 u.ops[a] := by
    have : (stkB m u).nx a = nxB u.ops[a] a := by simp only [stkB, opAt_eq ha]
    rw [this]
    exact nxB_eq fun hc => (hO.goal ha hc).1
  obtain ⟨NX, hNX⟩ : ∃ NX, nx1 u.ops[a] a ++ nx2 u.ops[a] = NX := ⟨_, rfl⟩
  rw [hNX] at hnx hx
  have hpop : (stkB m u).pop a = popB m u.ops[a] := by simp only [stkB, opAt_eq ha]
  have hpush : (stkB m u).push a = pushB u.ops[a] := by simp only [stkB, opAt_eq ha]
  obtain ⟨h', hh⟩ : ∃ h', va - popB m u.ops[a] + pushB u.ops[a] = h' := ⟨_, rfl⟩
  rw [hh] at h12
  have hNXl : NX.length = ((stkB m u).nx a).length := by rw [← hnx, List.length_map]
  have hNXs : NX.length ≤ 2 := by
    rw [← hNX, List.length_append]
    unfold nx1 nx2
    split <;> split <;> simp
  have hat : ∀ i (h : i < NX.length), ∃ b : Nat, NX[i] = (b : Int) ∧ ((stkB m u).nx a)[i]? = some b := fun i h => by
    have h2 : i < ((stkB m u).nx a).length := by omega
    refine ⟨((stkB m u).nx a)[i], ?_, List.getElem?_eq_getElem h2⟩
    have : (((stkB m u).nx a).map (fun b : Nat => (b : Int)))[i]? = NX[i]? := by rw [hnx]
    rw [List.getElem?_map, List.getElem?_eq_getElem h2, List.getElem?_eq_getElem h] at this
    simpa using this.symm
  refine run_loop (fun n s => ∃ i out', i ≤ NX.length ∧ n = NX.length - i ∧ (∀ t ∈ [2, 3, 6, 8, 9, 10, 12, 13], s.A t = A t) ∧ s.A 14 = i64 i ∧ RtS oo dd out' dn s.H s.N ∧ OwnT s.H Nb v13 NX ∧ (stkB m u).RN a va out' D i) NX.length ?_ ?_
  · exact ⟨0, out, by omega, by omega, fun _ _ => rfl, h14, hS, hx, hP⟩
  · rintro n A1 H1 N1 ⟨i, out1, hi, rfl, hA, e14, hS1, hx1, hP1⟩
    simp only at hA e14 hS1 hx1
    have e2 := hA 2 (by simp)
    have e3 := hA 3 (by simp)
    have e6 := hA 6 (by simp)
    have e8 := hA 8 (by simp)
    have e9 := hA 9 (by simp)
    have e10 := hA 10 (by simp)
    have e12 := hA 12 (by simp)
    have e13 := hA 13 (by simp)
    have hlen := hx1.rd.len
    rw [intCells_len] at hlen
    by_cases hie : i = NX.length
    · subst hie
      rw [hNXl] at hP1
      simp [a_bobbinref29_heightsb1, e13, h13, e14, hlen, -alen]
      refine hk _ _ _ out1 ?_ hS1 hP1.done
      simp [e2, e3, e6, e8, e9, e10]
    · have hlt : i < NX.length := by omega
      obtain ⟨b, hb1, hb2⟩ := hat i hlt
      have hbn : b < u.ops.length := hk0.nx a ha b (List.mem_of_getElem? hb2)
      have hbo : b < out1.length := by rw [hP1.way.len]; exact hbn
      obtain ⟨w, hw⟩ : ∃ w, out1[b] = w := ⟨_, rfl⟩
      have hw1 : out1[b]? = some w := by rw [List.getElem?_eq_getElem hbo, hw]
      obtain ⟨p, hp, pp⟩ := hx1.rd.at (intCells_sz _) (intCells_at hlt)
      have lp := pp.one
      rw [hb1] at lp
      have hwi : IntKind.i64.wrap ((i : Int) + 1) = ((i + 1 : Nat) : Int) := by rw [wrap_i64 (by omega) (by omega)]; rfl
      have hix : aindex 1 (.ms oo 0 u.ops.length 1) (i64 (b : Nat)) = some (.mp oo b) := by simp [aindex, hbn]
      have hld : aload H1 false 1 (.mp oo b) = some (i64 w) := by simp [aload, apart, hS1.at_, hw1]
      have go : w < 0 ∨ w = h' → RtS oo dd (out1.set b h') dn (H1.set oo (.blk ((out1.set b h').map i64))) N1 ∧ OwnT (H1.set oo (.blk ((out1.set b h').map i64))) Nb v13 NX ∧ (stkB m u).RN a va (out1.set b h') D (i + 1) := fun hw0 => by
        have hP2 := hP1.step hk0 hb2 hw1 (by rw [hpop, hpush, hh]; exact hw0)
        rw [hpop, hpush, hh] at hP2
        have hlt2 := hS1.lt
        refine ⟨⟨by simp [AHeap.set], ?_, fresh_rewr hS1.F hS1.at_, hlt2, hS1.ltN⟩, hx1.keep fun j k hv => ?_, hP2⟩
        · simp only [AHeap.set]; rw [if_neg (by omega)]; exact hS1.dat
        · have := (hx1.lt hS1.F j k hv).2
          simp only [AHeap.set]; rw [if_neg (by omega)]
      have hst : astore H1 1 (.mp oo b) (i64 h') = some (H1.set oo (.blk ((out1.set b h').map i64))) := by
        have hbm : b + 1 ≤ (out1.map i64).length := by simp; omega
        rw [← map_set_i64]
        simp [astore, hS1.at_, hbm]
        omega
      by_cases hw0 : 0 ≤ w
      · by_cases hwe : w = h'
        · obtain ⟨g1, g2, g3⟩ := go (.inr hwe)
          subst hwe
          simp [a_bobbinref29_heightsb1, e6, h6, e13, h13, e14, hlen, hlt, hp, lp, hix, hld, hw0, e12, h12, hwi, hst, e2, e3, e8, e9, e10, -aload, -astore, -alen]
          rw [map_set_i64]
          exact ⟨NX.length - (i + 1), by omega, i + 1, by omega, rfl, rfl, _, g1, g2, g3⟩
        · have hbad : (stkB m u).goodB = false := hP1.bad hb2 hw1 hw0 (by rw [hpop, hpush, hh]; exact hwe)
          simp [a_bobbinref29_heightsb1, e6, h6, e13, h13, e14, hlen, hlt, hp, lp, hix, hld, hw0, hwe, e12, h12, -aload, -alen]
          exact hr hbad _ _ _ (by simp) (by simp)
      · obtain ⟨g1, g2, g3⟩ := go (.inl (by omega))
        simp [a_bobbinref29_heightsb1, e6, h6, e13, h13, e14, hlen, hlt, hp, lp, hix, hld, hw0, e12, h12, hwi, hst, e2, e3, e8, e9, e10, -aload, -astore, -alen]
        rw [map_set_i64]
        exact ⟨NX.length - (i + 1), by omega, i + 1, by omega, rfl, rfl, _, g1, g2, g3⟩

theorem rh_c {o : OpV} {k : Nat} {h : Int} (hop : isOp o) (h3 : A 3 = .ip u.cells 0) (h6 : A 6 = .ms oo 0 u.ops.length 1) (h10 : A 10 = i64 a) (h11 : A 11 = .mp k 0) (hk0 : H k = some (.blk o.cells)) (h12 : A 12 = i64 h) (ha : a < u.ops.length) (hl : aload H false 1 (.mp oo a) = some (i64 va)) (hb : h ≤ 1000000)
    (hk : ¬ h < 0 → ¬ u.depth < va → ¬ u.depth < h + pushB o → ∀ A', (∀ t ∈ [2, 3, 6, 8, 9, 10, 11, 12], A' t = A t) → onward Tryz.prog fs Q .normal ⟨A', H, N⟩)
    (hr : h < 0 ∨ u.depth < va ∨ u.depth < h + pushB o → ∀ A', A' 4 = .sl .nil 0 [] → A' 5 = bl false → onward Tryz.prog fs Q .ret ⟨A', H, N⟩) : run Tryz.prog a_rh_c fs Q ⟨A, H, N⟩ := by
  have hix : aindex 1 (.ms oo 0 u.ops.length 1) (i64 (a : Nat)) = some (.mp oo a) := by simp [aindex, ha]
  have hbT : aload H true 2 (.mp k 0) = some (.agg o.cells) := by simp [aload, apart, hk0]
  have hp0 := pushB_pos o
  have hp1 := pushB_le o
  by_cases c1 : h < 0
  · simp [a_rh_c, h12, c1, aload_ip, -aload]
    exact hr (.inl c1) _ (by simp) (by simp)
  · have hw : IntKind.i64.wrap (h + pushB o) = h + pushB o := wrap_i64 (by omega) (by omega)
    by_cases c2 : u.depth < va
    · simp [a_rh_c, h12, c1, h3, h6, h10, hix, hl, c2, aload_ip, -aload]
      exact hr (.inr (.inl c2)) _ (by simp) (by simp)
    · by_cases c3 : u.depth < h + pushB o
      · simp [a_rh_c, h12, c1, h3, h6, h10, h11, hbT, hix, hl, c2, aload_ip, -aload]
        refine (p_rPushes hop).acall ?_
        simp [hw, c3, aload_ip, -aload]
        exact hr (.inr (.inr c3)) _ (by simp) (by simp)
      · simp [a_rh_c, h12, c1, h3, h6, h10, h11, hbT, hix, hl, c2, aload_ip, -aload]
        refine (p_rPushes hop).acall ?_
        simp [hw, c3, aload_ip, -aload]
        refine hk c1 c2 c3 _ ?_
        simp
end

section
variable {o : OpV} {a k : Nat} {A : Nat → AV} {H : AHeap} {N N0 : Nat} {fs : List Fr} {Q : Post} {v : AV} {l : List Int}
theorem rh_n1 (ho : isOp o) (ha : a < 1000000) (hF : Fresh H N) (h11 : A 11 = .mp k 0) (hk0 : H k = some (.blk o.cells)) (h10 : A 10 = i64 a) (h13 : A 13 = .sl .nil 0 [])
    (hk : ∀ A' H' N' v, (∀ t ∈ [2, 3, 6, 8, 9, 10, 11, 12], A' t = A t) → A' 13 = v → OwnT H' N v (nx1 o a) → (∀ j, j < N → H' j = H j) → Fresh H' N' → N ≤ N' → onward Tryz.prog fs Q .normal ⟨A', H', N'⟩) : run Tryz.prog a_rh_n1 fs Q ⟨A, H, N⟩ := by
  have hw : IntKind.i64.wrap ((a : Int) + 1) = (a : Int) + 1 := wrap_i64 (by omega) (by omega)
  obtain ⟨H', happ, hat, hold, hF'⟩ := own_push (H := H) (N := N) (N0 := N) (v := .sl .nil 0 []) (l := []) (.inl ⟨rfl, rfl⟩) hF (by simp) ((a : Int) + 1)
  by_cases h12 : o.code = 12
  · simp [a_rh_n1, h11, hk0, h12]
    refine hk _ _ _ (.sl .nil 0 []) ?_ ?_ (.inl ⟨by simp [nx1, h12], rfl⟩) (fun _ _ => rfl) hF (Nat.le_refl _)
    · simp
    · simp [h13]
  · by_cases h14 : o.code = 14
    · simp [a_rh_n1, h11, hk0, h14]
      refine hk _ _ _ (.sl .nil 0 []) ?_ ?_ (.inl ⟨by simp [nx1, h14], rfl⟩) (fun _ _ => rfl) hF (Nat.le_refl _)
      · simp
      · simp [h13]
    · simp [a_rh_n1, h11, hk0, h12, h14, h13, h10, hw, happ]
      refine hk _ _ _ (.ms N 0 1 1) ?_ ?_ (.inr ⟨N, [], Nat.le_refl _, by simp [nx1, h12, h14], by simpa [nx1, h12, h14] using hat⟩) (fun j hj => hold j (by omega) (by intro n hn; cases hn)) hF' (by omega)
      · simp
      · simp
theorem rh_n2 (ho : isOp o) (hl : l.length ≤ 1) (hF : Fresh H N) (h11 : A 11 = .mp k 0) (hk0 : H k = some (.blk o.cells)) (h13 : A 13 = v) (hv : OwnT H N0 v l) (hN0 : N0 ≤ N)
    (hk : ∀ A' H' N' v', (∀ t ∈ [2, 3, 6, 8, 9, 10, 11, 12], A' t = A t) → A' 13 = v' → OwnT H' N0 v' (l ++ nx2 o) → (∀ j, j < N0 → H' j = H j) → Fresh H' N' → N ≤ N' → onward Tryz.prog fs Q .normal ⟨A', H', N'⟩) : run Tryz.prog a_rh_n2 fs Q ⟨A, H, N⟩ := by
  obtain ⟨H', happ, hat, hold, hF'⟩ := own_push hv hF (by omega) o.n
  have yes : (o.code = 12 ∨ o.code = 13) → OwnT H' N0 (.ms N 0 (l.length + 1) 1) (l ++ nx2 o) ∧ ∀ j, j < N0 → H' j = H j := fun hc => ⟨.inr ⟨N, [], hN0, by simp [nx2, hc], by simpa [nx2, hc] using hat⟩, fun j hj => hold j (by omega) (by
      intro n hn
      have := (hv.lt hF j n hn).2
      omega)⟩
  by_cases h12 : o.code = 12
  · obtain ⟨y1, y2⟩ := yes (.inl h12)
    simp [a_rh_n2, h11, hk0, h12, h13, happ]
    refine hk _ _ _ (.ms N 0 (l.length + 1) 1) ?_ ?_ y1 y2 hF' (by omega)
    · simp
    · simp
  · by_cases h13' : o.code = 13
    · obtain ⟨y1, y2⟩ := yes (.inr h13')
      simp [a_rh_n2, h11, hk0, h13', h13, happ]
      refine hk _ _ _ (.ms N 0 (l.length + 1) 1) ?_ ?_ y1 y2 hF' (by omega)
      · simp
      · simp
    · simp [a_rh_n2, h11, hk0, h12, h13']
      refine hk _ _ _ v ?_ ?_ (by rw [show nx2 o = [] from if_neg (by omega), List.append_nil]; exact hv) (fun _ _ => rfl) hF (Nat.le_refl _)
      · simp
      · simp [h13]
end
end Go.Proofs.YtefejpckppabpaaGreatDoor

/- bytes: heights, by the reference. -/
namespace Go.Proofs.YtefejpckppabpaaGreatDoor
set_option linter.unusedSimpArgs false
set_option linter.unusedVariables false
open Go Go.Fw
theorem map_set_bl {l : List Bool} {b : Nat} {w : Bool} : (l.map bl).set b (bl w) = (l.set b w).map bl := by
  rw [List.map_set]
/-- What is done. -/
def inD (dn : List Bool) : Nat → Prop := fun x => dn[x]? = some true
theorem inD_set {dn : List Bool} {a x : Nat} (h : inD (dn.set a true) x) : inD dn x ∨ x = a := by
  unfold inD at h ⊢
  by_cases hx : x = a
  · exact .inr hx
  · rw [List.getElem?_set_ne (fun e => hx e.symm)] at h
    exact .inl h

section
variable {m : ImgV} {u : UnitV} {oo dd : Nat} {A : Nat → AV} {H : AHeap} {N : Nat} {fs : List Fr} {Q : Post} {out : List Int} {dn : List Bool}

theorem rh_s {i : Nat} {va : Int} {b : Bool} (h6 : A 6 = .ms oo 0 u.ops.length 1) (h8 : A 8 = .ms dd 0 u.ops.length 1) (h10 : A 10 = i64 i) (hlt : i < u.ops.length) (hlo : aload H false 1 (.mp oo i) = some (i64 va)) (hld : aload H false 1 (.mp dd i) = some (bl b))
    (hs : va < 0 ∨ b = true → ∀ A', (∀ t ∈ [2, 3, 6, 8, 9, 10], A' t = A t) → onward Tryz.prog fs Q (.exit 5) ⟨A', H, N⟩)
    (hk : ¬ va < 0 → b = false → ∀ A', (∀ t ∈ [2, 3, 6, 8, 9, 10], A' t = A t) → onward Tryz.prog fs Q .normal ⟨A', H, N⟩) : run Tryz.prog a_rh_s fs Q ⟨A, H, N⟩ := by
  have hix : aindex 1 (.ms oo 0 u.ops.length 1) (i64 (i : Nat)) = some (.mp oo i) := by simp [aindex, hlt]
  have hixd : aindex 1 (.ms dd 0 u.ops.length 1) (i64 (i : Nat)) = some (.mp dd i) := by simp [aindex, hlt]
  by_cases hv0 : va < 0
  · simp [a_rh_s, h6, h10, hix, hlo, hv0, -aload]
    refine hs (.inl hv0) _ ?_
    simp
  · cases b with
    | true =>
      simp [a_rh_s, h6, h8, h10, hix, hixd, hlo, hld, hv0, -aload]
      refine hs (.inr rfl) _ ?_
      simp
    | false =>
      simp [a_rh_s, h6, h8, h10, hix, hixd, hlo, hld, hv0, -aload]
      refine hk hv0 rfl _ ?_
      simp

def a_rh_d : ACode := .ops [⟨some 51, .val (.tmp 8), none⟩, ⟨some 52, .val (.tmp 10), none⟩, ⟨some 53, .indexAddr 1 (.tmp 51) (.tmp 52), none⟩, ⟨none, .store 1 (.tmp 53) (.val (.lit (.bool true))), none⟩]
theorem rh_d {i : Nat} (h8 : A 8 = .ms dd 0 u.ops.length 1) (h10 : A 10 = i64 i) (hlt : i < u.ops.length) (hdl : dn.length = u.ops.length) (hd : H dd = some (.blk (dn.map bl)))
    (hk : ∀ A', (∀ t ∈ [2, 3, 6, 8, 10], A' t = A t) → onward Tryz.prog fs Q .normal ⟨A', H.set dd (.blk ((dn.set i true).map bl)), N⟩) : run Tryz.prog a_rh_d fs Q ⟨A, H, N⟩ := by
  have hixd : aindex 1 (.ms dd 0 u.ops.length 1) (i64 (i : Nat)) = some (.mp dd i) := by simp [aindex, hlt]
  have hst : astore H 1 (.mp dd i) (bl true) = some (H.set dd (.blk ((dn.map bl).set i (bl true)))) := by
    have hbm : i + 1 ≤ (dn.map bl).length := by simp; omega
    simp [astore, hd, hbm]
    omega
  rw [map_set_bl] at hst
  simp [a_rh_d, h8, h10, hixd, hst, -aload, -astore]
  rw [map_set_bl]
  refine hk _ ?_
  simp

/-- One sweep. -/
theorem rt_b2 (hO : HtOk m u) (hS : RtS oo dd out dn H N) (hW : (stkB m u).Way out (inD dn)) (hdl : dn.length = u.ops.length) (h2 : A 2 = .ip m.cells 0) (h3 : A 3 = .ip u.cells 0) (h6 : A 6 = .ms oo 0 u.ops.length 1) (h8 : A 8 = .ms dd 0 u.ops.length 1) (h9 : A 9 = bl false) (h10 : A 10 = i64 0)
    (hk : ∀ A' H' N' out' dn' mo, A' 2 = .ip m.cells 0 → A' 3 = .ip u.cells 0 → A' 6 = .ms oo 0 u.ops.length 1 → A' 8 = .ms dd 0 u.ops.length 1 → A' 9 = bl mo → RtS oo dd out' dn' H' N' → (stkB m u).Way out' (inD dn') → dn'.length = u.ops.length → (mo = true → notD dn' < notD dn) → (mo = false → ∀ (j : Nat) (v : Int), out'[j]? = some v → 0 ≤ v → inD dn' j) → onward Tryz.prog fs Q (.exit 4) ⟨A', H', N'⟩)
    (hr : (stkB m u).goodB = false → ∀ A' H' N', A' 4 = .sl .nil 0 [] → A' 5 = bl false → onward Tryz.prog fs Q .ret ⟨A', H', N'⟩) : run Tryz.prog (.loop a_bobbinref29_heightsb2) fs Q ⟨A, H, N⟩ := by
  obtain ⟨hl1, hl2, hd1, hd2⟩ := hO.len
  have hk0 := stkB_ok hO.fit
  refine run_loop (fun n s => ∃ i out' dn' mo, i ≤ u.ops.length ∧ n = u.ops.length - i ∧ s.A 2 = .ip m.cells 0 ∧ s.A 3 = .ip u.cells 0 ∧ s.A 6 = .ms oo 0 u.ops.length 1 ∧ s.A 8 = .ms dd 0 u.ops.length 1 ∧ s.A 9 = bl mo ∧ s.A 10 = i64 i ∧ RtS oo dd out' dn' s.H s.N ∧ (stkB m u).Way out' (inD dn') ∧ dn'.length = u.ops.length ∧ (mo = true → notD dn' < notD dn) ∧ (mo = false → notD dn' = notD dn ∧ ∀ (j : Nat) (v : Int), j < i → out'[j]? = some v → 0 ≤ v → inD dn' j)) u.ops.length ?_ ?_
  · exact ⟨0, out, dn, false, by omega, by omega, h2, h3, h6, h8, h9, h10, hS, hW, hdl, fun h => (by cases h), fun _ => ⟨rfl, fun j v hj => by omega⟩⟩
  · rintro n A1 H1 N1 ⟨i, out1, dn1, mo, hi, rfl, e2, e3, e6, e8, e9, e10, hS1, hW1, hdl1, hmt, hmf⟩
    simp only at e2 e3 e6 e8 e9 e10 hS1
    have hwi : IntKind.i64.wrap ((i : Int) + 1) = ((i + 1 : Nat) : Int) := by rw [wrap_i64 (by omega) (by omega)]; rfl
    unfold a_bobbinref29_heightsb2
    obtain ⟨_, q0⟩ : ∃ c, a_rh_s = c := ⟨_, rfl⟩
    rw [q0]
    obtain ⟨_, q1⟩ : ∃ c, a_rh_c = c := ⟨_, rfl⟩
    rw [q1]
    obtain ⟨_, q3⟩ : ∃ c, a_rh_n1 = c := ⟨_, rfl⟩
    rw [q3]
    obtain ⟨_, q4⟩ : ∃ c, a_rh_n2 = c := ⟨_, rfl⟩
    rw [q4]
    obtain ⟨_, q5⟩ : ∃ c, a_bobbinref29_heightsb1 = c := ⟨_, rfl⟩
    rw [q5]
    by_cases hie : i = u.ops.length
    · subst hie
      simp [e10, e3]
      refine hk _ _ _ out1 dn1 mo ?_ ?_ ?_ ?_ ?_ hS1 hW1 hdl1 hmt (fun hm j v hj hv => (hmf hm).2 j v ?_ hj hv)
      · simp [e2]
      · simp [e3]
      · simp [e6]
      · simp [e8]
      · simp [e9]
      · have := (List.getElem?_eq_some_iff.1 hj).1
        rw [hW1.len] at this
        exact this
    · have hlt : i < u.ops.length := by omega
      obtain ⟨o, ho⟩ : ∃ o, u.ops[i] = o := ⟨_, rfl⟩
      have hop : isOp o := by rw [← ho]; exact namB_op (hO.nam hlt)
      have hpops := p_rPops (m := m) hop (fun hc => by rw [← ho] at hc ⊢; exact hO.call hlt hc)
      have hol : i < out1.length := by rw [hW1.len]; exact hlt
      obtain ⟨va, hva'⟩ : ∃ va, out1[i] = va := ⟨_, rfl⟩
      have hva : out1[i]? = some va := by rw [List.getElem?_eq_getElem hol, hva']
      obtain ⟨b, hb'⟩ : ∃ b, dn1[i]'(by omega) = b := ⟨_, rfl⟩
      have hb : dn1[i]? = some b := by rw [List.getElem?_eq_getElem (by omega), hb']
      have hixo : aindex 2 (.sl u.k 2 (opsCells u.ops)) (i64 (i : Nat)) = some (.ip o.cells 0) := aindex_sl (by omega) (by simp [opsCells, hlt, ho])
      have hix : aindex 1 (.ms oo 0 u.ops.length 1) (i64 (i : Nat)) = some (.mp oo i) := by simp [aindex, hlt]
      have hixd : aindex 1 (.ms dd 0 u.ops.length 1) (i64 (i : Nat)) = some (.mp dd i) := by simp [aindex, hlt]
      have hlo : aload H1 false 1 (.mp oo i) = some (i64 va) := by simp [aload, apart, hS1.at_, hva]
      have hld : aload H1 false 1 (.mp dd i) = some (bl b) := by simp [aload, apart, hS1.dat, hb]
      simp [e10, e3, hlt]
      rw [← q0]
      refine rh_s (u := u) (oo := oo) (dd := dd) (i := i) (va := va) (b := b) ?_ ?_ ?_ hlt hlo hld (fun hskip A2 hA2 => ?_) (fun hv0 hbf A2 hA2 => ?_)
      · simp [e6]
      · simp [e8]
      · simp [e10]
      · have g2 := hA2 2 (by simp)
        have g3 := hA2 3 (by simp)
        have g6 := hA2 6 (by simp)
        have g8 := hA2 8 (by simp)
        have g9 := hA2 9 (by simp)
        have g10 := hA2 10 (by simp)
        simp [e2, e3, e6, e8, e9, e10] at g2 g3 g6 g8 g9 g10
        simp [g2, g3, g6, g8, g9, g10, hwi]
        refine ⟨u.ops.length - (i + 1), by omega, i + 1, by omega, rfl, out1, dn1, ?_⟩
        cases mo with
        | false =>
          refine .inl ⟨rfl, rfl, hS1, hW1, hdl1, (hmf rfl).1, fun j v hj hv hv0 => ?_⟩
          by_cases hji : j = i
          · subst hji
            rw [hva] at hv
            cases hv
            rcases hskip with h | h
            · omega
            · unfold inD; rw [hb, h]
          · exact (hmf rfl).2 j v (by omega) hv hv0
        | true => exact .inr ⟨rfl, rfl, hS1, hW1, hdl1, hmt rfl⟩
      · subst hbf
        have f2 := hA2 2 (by simp)
        have f3 := hA2 3 (by simp)
        have f6 := hA2 6 (by simp)
        have f8 := hA2 8 (by simp)
        have f10 := hA2 10 (by simp)
        simp [e2, e3, e6, e8, e10] at f2 f3 f6 f8 f10
        have hva0 : 0 ≤ va := by omega
        have hlt2 := hS1.lt
        have hltN := hS1.ltN
        have hsx : splice 0 o.cells [AV.lit (Value.int .u8 0), AV.lit (Value.int .i64 0)] = o.cells := splice_full (by simp)
        have hst2 : ∀ H' : AHeap, astore (H'.set N1 (.blk [AV.lit (Value.int .u8 0), AV.lit (Value.int .i64 0)])) 2 (.mp N1 0) (.agg o.cells) = some (H'.set N1 (.blk o.cells)) := fun H' => by
          simp [astore, hsx]
        obtain ⟨H2, hH2⟩ : ∃ H2, (H1.set dd (.blk ((dn1.set i true).map bl))).set N1 (.blk o.cells) = H2 := ⟨_, rfl⟩
        have hF2 : Fresh H2 (N1 + 1) := by rw [← hH2]; exact (fresh_rewr hS1.F hS1.dat).set _
        have hk2 : H2 N1 = some (.blk o.cells) := by rw [← hH2]; simp [AHeap.set]
        have ho2 : H2 oo = some (.blk (out1.map i64)) := by
          rw [← hH2]; simp only [AHeap.set]; rw [if_neg (by omega), if_neg (by omega)]; exact hS1.at_
        have hd2' : H2 dd = some (.blk ((dn1.set i true).map bl)) := by
          rw [← hH2]; simp only [AHeap.set]; simp <;> omega
        have hlo2 : aload H2 false 1 (.mp oo i) = some (i64 va) := by simp [aload, apart, ho2, hva]
        have hoT : ∀ H' : AHeap, aload H' true 2 (.ip o.cells 0) = some (.agg o.cells) := fun H' => by simp [aload, apart]
        have hmT : ∀ H' : AHeap, aload H' true 3 (.ip m.cells 0) = some (.agg m.cells) := fun H' => by simp [aload, apart]
        have hbT : aload H2 true 2 (.mp N1 0) = some (.agg o.cells) := by simp [aload, apart, hk2]
        have hbnd := hW1.bound hk0 hd1 hva
        have hpp := hO.pop hlt
        rw [ho] at hpp
        have hpu := pushB_le o
        have hpu0 := pushB_pos o
        have hbva : va ≤ u.depth := hbnd.2
        have hwsub : IntKind.i64.wrap (va - popB m o) = va - popB m o := wrap_i64 (by omega) (by omega)
        have hwadd : IntKind.i64.wrap (va - popB m o + pushB o) = va - popB m o + pushB o := wrap_i64 (by omega) (by omega)
        have hpop : (stkB m u).pop i = popB m o := by simp only [stkB, opAt_eq hlt, ho]
        have hpush : (stkB m u).push i = pushB o := by simp only [stkB, opAt_eq hlt, ho]
        simp only [onward_seq_n, run_seq]
        refine rh_d (u := u) (dd := dd) (dn := dn1) (i := i) f8 f10 hlt hdl1 hS1.dat (fun A3 hA3 => ?_)
        have f2 := (hA3 2 (by simp)).trans f2
        have f3 := (hA3 3 (by simp)).trans f3
        have f6 := (hA3 6 (by simp)).trans f6
        have f8 := (hA3 8 (by simp)).trans f8
        have f10 := (hA3 10 (by simp)).trans f10
        simp only [← map_set_bl] at hH2
        simp [f10, f3, f2, f6, f8, hix, hixo, hst2, hH2, hlo2, aload_ip, hoT, hmT, hbT, -aload, -astore]
        refine ⟨_, hpops, ?_⟩
        simp [hwsub]
        have badfit : ¬ (stkB m u).fits i va → (stkB m u).goodB = false := fun h => hW1.bad_fit hva hva0 h
        rw [← q1]
        refine rh_c (u := u) (oo := oo) (a := i) (va := va) (k := N1) (h := va - popB m o) hop ?_ ?_ ?_ ?_ hk2 ?_ hlt hlo2 (by omega) (fun c1 c2 c3 A3 hA3 => ?_) (fun hc A3 k4 k5 => ?_)
        · simp [f3]
        · simp [f6]
        · simp [f10]
        · simp
        · simp
        rotate_left
        · have hng : (stkB m u).goodB = false := badfit fun hf => by
            have h1 := hf.1
            have h2 := hf.2.1
            have h3 := hf.2.2
            rw [hpop] at h1 h3
            rw [hpush] at h3
            simp only [stkB] at h2 h3
            omega
          simp
          exact hr hng _ _ _ k4 k5
        have g2 := hA3 2 (by simp)
        have g3 := hA3 3 (by simp)
        have g6 := hA3 6 (by simp)
        have g8 := hA3 8 (by simp)
        have g9 := hA3 9 (by simp)
        have g10 := hA3 10 (by simp)
        have g11 := hA3 11 (by simp)
        have g12 := hA3 12 (by simp)
        simp [f2, f3, f6, f8, f10] at g2 g3 g6 g8 g9 g10 g11 g12
        simp [g11, g12, hbT, -aload]
        refine (p_rPushes hop).acall ?_
        simp [g12, hwadd]
        rw [← q3]
        refine rh_n1 (o := o) (a := i) (k := N1) hop (by omega) hF2 ?_ hk2 ?_ ?_ (fun A4 H4 N4 w4 hA4 hw4 hO4 hH4 hF4 hN4 => ?_)
        · simp [g11]
        · simp [g10]
        · simp
        have l2 := hA4 2 (by simp)
        have l3 := hA4 3 (by simp)
        have l6 := hA4 6 (by simp)
        have l8 := hA4 8 (by simp)
        have l9 := hA4 9 (by simp)
        have l10 := hA4 10 (by simp)
        have l11 := hA4 11 (by simp)
        have l12 := hA4 12 (by simp)
        simp [g2, g3, g6, g8, g9, g10, g11, g12] at l2 l3 l6 l8 l9 l10 l11 l12
        simp
        rw [← q4]
        refine rh_n2 (o := o) (k := N1) (v := w4) (l := nx1 o i) hop (by unfold nx1; split <;> simp) hF4 ?_ ?_ hw4 hO4 (by omega) (fun A5 H5 N5 w5 hA5 hw5 hO5 hH5 hF5 hN5 => ?_)
        · simp [l11]
        · rw [hH4 N1 (by omega)]; exact hk2
        have m2 := hA5 2 (by simp)
        have m3 := hA5 3 (by simp)
        have m6 := hA5 6 (by simp)
        have m8 := hA5 8 (by simp)
        have m9 := hA5 9 (by simp)
        have m10 := hA5 10 (by simp)
        have m12 := hA5 12 (by simp)
        simp [l2, l3, l6, l8, l9, l10, l12] at m2 m3 m6 m8 m9 m10 m12
        have hkeep : ∀ j, j < N1 → H5 j = H2 j := fun j hj => by
          rw [hH5 j (by omega), hH4 j (by omega)]
        have hS5 : RtS oo dd out1 (dn1.set i true) H5 N5 := ⟨by rw [hkeep oo (by omega)]; exact ho2, by rw [hkeep dd (by omega)]; exact hd2', hF5, hlt2, by omega⟩
        have hfit : (stkB m u).fits i va := by
          refine ⟨?_, ?_, ?_⟩
          · rw [hpop]; omega
          · simp only [stkB]; omega
          · rw [hpop, hpush]; simp only [stkB]; omega
        simp
        rw [← q5]
        refine rt_b1 (m := m) (u := u) (oo := oo) (dd := dd) (out := out1) (dn := dn1.set i true) (v13 := w5) (D := inD dn1) (a := i) (va := va) (Nb := N1 + 1) hO hS5 (.start hW1 hva hva0 hfit) hlt (by omega) (by rw [ho]; exact hO5) ?_ ?_ ?_ ?_ (fun A6 H6 N6 out6 hA6 hS6 hW6 => ?_) (fun hng A6 H6 N6 k4 k5 => ?_)
        · simp [m6]
        · simp [m12, ho]
        · simp [hw5]
        · simp
        · have n2 := hA6 2 (by simp)
          have n3 := hA6 3 (by simp)
          have n6 := hA6 6 (by simp)
          have n8 := hA6 8 (by simp)
          have n9 := hA6 9 (by simp)
          have n10 := hA6 10 (by simp)
          simp [m2, m3, m6, m8, m9, m10] at n2 n3 n6 n8 n9 n10
          simp [n2, n3, n6, n8, n9, n10, hwi]
          have hnd := notD_set hb
          refine ⟨u.ops.length - (i + 1), by omega, i + 1, by omega, rfl, rfl, out6, dn1.set i true, hS6, hW6.fewer fun x hx => inD_set hx, by simp [hdl1], ?_⟩
          cases mo with
          | false => have := (hmf rfl).1; omega
          | true => have := hmt rfl; omega
        · simp
          exact hr hng _ _ _ k4 k5
end
end Go.Proofs.YtefejpckppabpaaGreatDoor
