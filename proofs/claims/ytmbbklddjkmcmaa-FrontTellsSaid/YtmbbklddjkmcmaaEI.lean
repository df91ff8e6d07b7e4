/- front: FrontTells. -/
import Derived.Test.YtmbbklddjkmcmaaEF
namespace Go.Proofs.Ytmbbklddjkmcmaa
set_option linter.unusedSimpArgs false
set_option linter.unusedVariables false
open Go Go.Fw Go.Dm

section
variable {L : List Int} {bs : List Nat} {x : GraphV} {r : RowV} {fv va : AV} {w : List (List Int)} {A : Nat → AV} {H : AHeap} {N o n i : Nat} {cs : List AV} {fs : List Fr} {Q : Post} {l : List Int}

/-- A row is written over. -/
structure FtR (A0 : Nat → AV) (H0 : AHeap) (N0 id len : Nat) (k : Nat) (s : St) : Prop where
  ex : ∃ (j : Nat) (ds : List AV), k = len - j ∧ j ≤ len ∧ (∀ t ∈ [0, 1, 5, 6, 7, 8, 9], s.A t = A0 t) ∧ s.A 10 = i64 j ∧ s.N = N0 ∧ s.H id = some (.blk ds) ∧ len ≤ ds.length ∧ ∀ j, j ≠ id → s.H j = H0 j

theorem ft_row (hoc : H o = some (.blk cs)) (hi : i < n) (hcl : cs.length = n) (hl : l.length ≤ 1000) (hv : cs[i]? = some va) (hrow : SlAt H va l) (hlo : ∀ id n1, va = .ms id 0 n1 1 → o ≠ id) (h7 : A 7 = .ms o 0 n 1) (h9 : A 9 = i64 i) (h10 : A 10 = i64 0)
    (hk : ∀ (A' : Nat → AV) (H' : AHeap), (∀ t ∈ [0, 1, 5, 6, 7, 8, 9], A' t = A t) → (∀ j, (∀ n1, va ≠ .ms j 0 n1 1) → H' j = H j) → onward Try.prog fs Q (.exit 4) ⟨A', H', N⟩) : run Try.prog (.loop a_bobbinlaw13_FrontTellsb2) fs Q ⟨A, H, N⟩ := by
  have ix : aindex 1 (.ms o 0 n 1) (i64 i) = some (.mp o i) := by simp [aindex, hi]
  have hvl := hrow.rd.len
  rw [intCells_len] at hvl
  rcases hrow with ⟨rfl, rfl⟩ | ⟨h0, id, z, rfl, h1⟩
  · have ld : aload H false 1 (.mp o i) = some (.sl .nil 0 []) := by simp [aload, apart, hoc, hv]
    have hvl' : alen 1 (.sl .nil 0 []) = some 0 := rfl
    refine run_loop (fun k s => s = ⟨A, H, N⟩) 0 rfl ?_
    rintro k A1 H1 N1 hs
    cases hs
    simp [a_bobbinlaw13_FrontTellsb2, h7, h9, h10, ix, ld, hvl', -alen, -aload]
    exact hk _ _ (by simp [h7, h9]) fun _ _ => rfl
  · have hoid := hlo id _ rfl
    refine run_loop (FtR A H N id l.length) l.length ?_ ?_
    · exact ⟨0, _, by omega, by omega, by simp, h10, rfl, h1, by simp, fun _ _ => rfl⟩
    · rintro k A1 H1 N1 ⟨j, ds, hk', hj, hA, e10, hN, hid, hdl, hold⟩
      simp only at hA e10 hN hid hold
      subst hN
      have hA' := hA
      simp at hA'
      obtain ⟨g0, g1, g5, g6, g7, g8, g9⟩ := hA'
      rw [h7] at g7
      rw [h9] at g9
      have ho1 : H1 o = some (.blk cs) := by rw [hold o hoid, hoc]
      have ld : aload H1 false 1 (.mp o i) = some (.ms id 0 l.length 1) := by simp [aload, apart, ho1, hv]
      by_cases hjl : j = l.length
      · subst hjl
        simp [a_bobbinlaw13_FrontTellsb2, g7, g9, e10, ix, ld, hvl, -alen, -aload]
        refine hk _ _ (by simp [g0, g1, g5, g6, g7, g8, g9, h7, h9]) fun j hj => hold j fun h => hj l.length (by rw [h])
      · have hlt : j < l.length := by omega
        have wr : IntKind.i64.wrap ((j : Int) + 1) = ((j + 1 : Nat) : Int) := by rw [wrap_i64 (by omega) (by omega)]; rfl
        have ixj : aindex 1 (.ms id 0 l.length 1) (i64 j) = some (.mp id j) := by simp [aindex, hlt]
        have st : astore H1 1 (.mp id j) (i64 (-1)) = some (H1.set id (.blk (ds.set j (i64 (-1))))) := by simp [astore, hid, show j + 1 ≤ ds.length by omega]
        simp [a_bobbinlaw13_FrontTellsb2, g7, g9, e10, ix, ld, hvl, hlt, ixj, st, wr, -alen, -aload, -astore]
        refine ⟨l.length - (j + 1), by omega, ⟨j + 1, ds.set j (i64 (-1)), rfl, by omega, by simp [g0, g1, g5, g6, g7, g8, g9, h7, h9], by simp, rfl, by simp, by simp; omega, fun j' hj' => ?_⟩⟩
        simp [hj']
        exact hold j' hj'

structure FtP (A0 : Nat → AV) (N0 id len : Nat) (k : Nat) (s : St) : Prop where
  ex : ∃ (j : Nat) (ds : List AV), k = len - j ∧ j ≤ len ∧ (∀ t ∈ [0, 1, 5, 6, 8], s.A t = A0 t) ∧ s.A 11 = i64 j ∧ s.N = N0 ∧ s.H id = some (.blk ds) ∧ len ≤ ds.length

/-- What is placed is written over. -/
theorem ft_placed (hl : l.length ≤ 1000) (hrow : SlAt H va l) (h8 : A 8 = va) (h11 : A 11 = i64 0)
    (hk : ∀ (A' : Nat → AV) (H' : AHeap), (∀ t ∈ [0, 1, 5, 6], A' t = A t) → onward Try.prog fs Q (.exit 6) ⟨A', H', N⟩) : run Try.prog (.loop a_bobbinlaw13_FrontTellsb1) fs Q ⟨A, H, N⟩ := by
  have hvl := hrow.rd.len
  rw [intCells_len] at hvl
  rcases hrow with ⟨rfl, rfl⟩ | ⟨h0, id, z, rfl, h1⟩
  · have hvl' : alen 1 (.sl .nil 0 []) = some 0 := rfl
    refine run_loop (fun k s => s = ⟨A, H, N⟩) 0 rfl ?_
    rintro k A1 H1 N1 hs
    cases hs
    simp [a_bobbinlaw13_FrontTellsb1, h8, h11, hvl', -alen]
    exact hk _ _ (by simp)
  · refine run_loop (FtP A N id l.length) l.length ?_ ?_
    · exact ⟨0, _, by omega, by omega, by simp, h11, rfl, h1, by simp⟩
    · rintro k A1 H1 N1 ⟨j, ds, hk', hj, hA, e11, hN, hid, hdl⟩
      simp only at hA e11 hN hid
      subst hN
      have hA' := hA
      simp at hA'
      obtain ⟨g0, g1, g5, g6, g8⟩ := hA'
      rw [h8] at g8
      by_cases hjl : j = l.length
      · subst hjl
        simp [a_bobbinlaw13_FrontTellsb1, g8, e11, hvl, -alen]
        exact hk _ _ (by simp [g0, g1, g5, g6])
      · have hlt : j < l.length := by omega
        have wr : IntKind.i64.wrap ((j : Int) + 1) = ((j + 1 : Nat) : Int) := by rw [wrap_i64 (by omega) (by omega)]; rfl
        have ixj : aindex 1 (.ms id 0 l.length 1) (i64 j) = some (.mp id j) := by simp [aindex, hlt]
        have st : astore H1 1 (.mp id j) (i64 (-1)) = some (H1.set id (.blk (ds.set j (i64 (-1))))) := by simp [astore, hid, show j + 1 ≤ ds.length by omega]
        simp [a_bobbinlaw13_FrontTellsb1, g8, e11, hvl, hlt, ixj, st, wr, -alen, -astore]
        exact ⟨l.length - (j + 1), by omega, ⟨j + 1, ds.set j (i64 (-1)), rfl, by omega, by simp [g0, g1, g5, g6, g8, h8], by simp, rfl, by simp, by simp; omega⟩⟩

/-- All rows are compared and written over. -/
structure FtA (A0 : Nat → AV) (o n : Nat) (cs : List AV) (fr : Nat → List Nat) (vp : AV) (lp : List Int) (k : Nat) (s : St) : Prop where
  ex : ∃ i, k = n - i ∧ i ≤ n ∧ (∀ t ∈ [0, 1, 5, 6, 7, 8], s.A t = A0 t) ∧ s.A 9 = i64 i ∧ s.H o = some (.blk cs) ∧ (∀ k v, i ≤ k → cs[k]? = some v → SlAt s.H v (natI (fr k))) ∧ SlAt s.H vp lp

theorem ft_all (hn : n ≤ 100) (hW : Rows fv w) (hwn : w.length = n) {fr : Nat → List Nat} (hfr : ∀ b, b < n → w[b]? = some (natI (fr b))) {vp : AV} {lp : List Int} (hR : FrR H n o fr cs) (hp : SlAt H vp lp) (hap : ∀ (k i n1 n2 : Nat), cs[k]? = some (.ms i 0 n1 1) → vp ≠ .ms i 0 n2 1)
    (h5 : A 5 = fv) (h7 : A 7 = .ms o 0 n 1) (h9 : A 9 = i64 0)
    (hk : ∀ (A' : Nat → AV) (H' : AHeap), (∀ t ∈ [0, 1, 5, 6, 7, 8], A' t = A t) → SlAt H' vp lp → onward Try.prog fs Q (.exit 2) ⟨A', H', N⟩) : run Try.prog (.loop a_bobbinlaw13_FrontTellsb3) fs Q ⟨A, H, N⟩ := by
  have hcl := hR.len
  refine run_loop (fun k s => FtA A o n cs fr vp lp k s ∧ s.N = N) n ?_ ?_
  · exact ⟨⟨0, by omega, by omega, by simp, h9, hR.at_, fun k v _ hv => hR.row k v hv, hp⟩, rfl⟩
  · rintro k A1 H1 N1 ⟨⟨i, hk', hi, hA, e9, hoc, hrows, hp1⟩, hN⟩
    simp only at hA e9 hoc hrows hp1 hN
    subst hN
    have hA' := hA
    simp at hA'
    obtain ⟨g0, g1, g5, g6, g7, g8⟩ := hA'
    rw [h5] at g5
    rw [h7] at g7
    by_cases hil : i = n
    · subst hil
      simp [a_bobbinlaw13_FrontTellsb3, g7, e9]
      exact hk _ _ (by simp [g0, g1, g5, g6, g7, g8, h5, h7]) hp1
    · have hlt : i < n := by omega
      have hci : cs[i]? = some cs[i] := List.getElem?_eq_getElem (by omega)
      obtain ⟨v, hv⟩ : ∃ v, cs[i] = v := ⟨_, rfl⟩
      rw [hv] at hci
      have hrow := hrows i v (Nat.le_refl _) hci
      have hwi := hfr i hlt
      have hfa := hW.at_ i _ hwi
      have hlen := (hW.ok _ (List.mem_of_getElem? hwi)).1
      have ix : aindex 1 (.ms o 0 n 1) (i64 i) = some (.mp o i) := by simp [aindex, hlt]
      have ld : aload H1 false 1 (.mp o i) = some v := by simp [aload, apart, hoc, hci]
      have lr : aload H1 false 1 (.ip [rv (natI (fr i))] 0) = some (rv (natI (fr i))) := rfl
      have wr : IntKind.i64.wrap ((i : Int) + 1) = ((i + 1 : Nat) : Int) := by rw [wrap_i64 (by omega) (by omega)]; rfl
      simp [a_bobbinlaw13_FrontTellsb3, g5, g7, e9, hlt, ix, ld, hfa, lr, -aload]
      refine (p_Ints hrow.rd (rv_rd _ H1) (by unfold maxLen; omega) N1).mono ?_
      rintro r' H2 N2 ⟨rfl, hH2, hN2⟩
      rw [hH2, hN2]
      simp
      refine ft_row (o := o) (n := n) (cs := cs) (i := i) hoc hlt hcl (l := natI (fr i)) (by omega) hci hrow (fun id n1 hid => ?_) ?_ ?_ ?_ ?_
      · have := hR.lo i id n1 (by rw [hci, hid])
        omega
      · simp [g7]
      · simp [e9]
      · simp
      intro A3 H3 hA3 hold
      simp at hA3
      obtain ⟨k0, k1, k5, k6, k7, k8, k9⟩ := hA3
      simp [k9, e9, wr]
      have keep : ∀ (v' : AV) (l' : List Int), SlAt H1 v' l' → (∀ j n1 n2, v' = .ms j 0 n1 1 → v ≠ .ms j 0 n2 1) → SlAt H3 v' l' := fun v' l' h hne => h.keep fun j n1 hj => hold j fun n2 => hne j n1 n2 hj
      refine ⟨n - (i + 1), by omega, ⟨i + 1, rfl, by omega, by simp [k0, k1, k5, k6, k7, k8, g0, g1, g5, g6, g7, g8, h5, h7], by simp, ?_, fun k v' hkb hk' => ?_, ?_⟩⟩
      · show H3 o = _
        rw [hold o fun n1 hv1 => ?_]
        · exact hoc
        · have := hR.lo i o n1 (by rw [hci, hv1])
          omega
      · refine keep v' _ (hrows k v' (by omega) hk') fun j n1 n2 h1 h2 => ?_
        have := hR.apart k i j n1 n2 (by rw [hk', h1]) (by rw [hci, h2])
        omega
      · exact keep vp lp hp1 fun j n1 n2 h1 h2 => hap i j n2 n1 (by rw [hci, h2]) h1
end

end Go.Proofs.Ytmbbklddjkmcmaa

namespace Go.Proofs.Ytmbbklddjkmcmaa
set_option linter.unusedSimpArgs false
set_option linter.unusedVariables false
open Go Go.Fw Go.Dm

section
variable {L : List Int} {bs : List Nat} {x : GraphV} {r : RowV}

theorem row_edges {g : List RowV} : ∀ r ∈ g, r.l.length ≤ edges g := by
  induction g with
  | nil => intro r hr; simp at hr
  | cons a g ih =>
    intro r hr
    simp only [edges, List.map_cons, List.sum_cons] at ih ⊢
    rcases List.mem_cons.1 hr with rfl | h
    · omega
    · have := ih r h
      omega

theorem FrR.later {H H' : AHeap} {N n o : Nat} {fr : Nat → List Nat} {cs : List AV} (h : FrR H n o fr cs) (hF : Fresh H N) (hk : ∀ i, i < N → H' i = H i) : FrR H' n o fr cs where
  at_ := by rw [hk o (hF.lt h.at_)]; exact h.at_
  len := h.len
  row := fun k v hv => (h.row k v hv).later hF hk
  apart := h.apart
  lo := h.lo
theorem FrR.below {H : AHeap} {N n o : Nat} {fr : Nat → List Nat} {cs : List AV} (h : FrR H n o fr cs) (hF : Fresh H N) {k i n1 : Nat} (hk : cs[k]? = some (.ms i 0 n1 1)) : i < N := by
  rcases h.row k _ hk with ⟨_, h2⟩ | ⟨_, i', z, h2, h3⟩
  · cases h2
  · cases h2; exact hF.lt h3

structure FtI (x : GraphV) (r : RowV) (k : Nat) (s : St) : Prop where
  ex : ∃ j : Nat, k = 2 - j ∧ j ≤ 2 ∧ s.A 0 = x.av ∧ s.A 1 = r.av ∧ s.A 5 = frV x.g ∧ s.A 6 = i64 j

theorem p_FrontTells (x : GraphV) (hx : x.Ok) (hRe : ∀ r ∈ x.g, r.l.length * 8 ≤ reachBytes) (r : RowV) (hr : r.Ok) (H : AHeap) (N : Nat) : ACall Try.prog 10 [x.av, r.av] H N (fun r _ _ => r = bl true) := by
  by_cases hbig : edges x.g ≤ 400
  rotate_left
  · refine acall mixed c_bobbinlaw13_FrontTells (by simp) ?_
    simp [a_bobbinlaw13_FrontTells]
    refine (p_large x hx hRe r hr H N).mono ?_
    rintro r' H' N' ⟨rfl, rfl, b, rfl, hb⟩
    cases b with
    | true => simp
    | false => exact absurd (hb rfl).2.1 hbig
  refine ACall.ghost (by kernel_rfl) (p_Of x hx (by omega)) ?_
  rintro ⟨rT, hrT⟩
  obtain ⟨L, bs, hT⟩ : ∃ (L : List Int) (bs : List Nat), mayG x.g = true → TreeOk x.g L bs := by
    by_cases hm : mayG x.g = true
    · rw [if_pos hm] at hrT
      obtain ⟨L, bs, h, _⟩ := hrT
      exact ⟨L, bs, fun _ => h⟩
    · exact ⟨[], [], fun h => absurd h hm⟩
  refine acall mixed c_bobbinlaw13_FrontTells (by simp) ?_
  simp [a_bobbinlaw13_FrontTells]
  refine (p_large x hx hRe r hr H N).mono ?_
  rintro r' H' N' ⟨rfl, rfl, b, rfl, hb⟩
  cases b with
  | true => simp
  | false =>
    obtain ⟨hn, he, hrl⟩ := hb rfl
    have hs : Mid x.g := ⟨hn, fun r' hr' => by have := row_edges r' hr'; omega⟩
    simp
    refine (p_rFOf x hx hs hT).acall ?_
    simp
    refine run_loop (FtI x r) 2 ?_ ?_
    · exact ⟨0, by omega, by omega, by simp, by simp, by simp, by simp⟩
    · rintro k A1 H1 N1 ⟨j, hk', hj, e0, e1, e5, e6⟩
      simp only at e0 e1 e5 e6
      have hW := rows_frV x (by omega)
      have hwl := hW.len
      have hP := p_rPlaced x hx hs hT r hr
      have hpl : (natI (plG x.g r.l)).length ≤ 1000 := by
        simp only [natI, List.length_map]
        unfold plG
        split
        · have := setL_len (n := x.g.length) (S := Pl (FrG (Edge x.g)) fun b => (b : Int) ∈ r.l)
          omega
        · simp
      by_cases hj2 : j = 2
      · subst hj2
        simp [a_bobbinlaw13_FrontTellsb4, e6]
      · have hlt : (j : Int) < 2 := by omega
        have hlt2 : j < 2 := by omega
        have wr : IntKind.i64.wrap ((j : Int) + 1) = ((j + 1 : Nat) : Int) := by rw [wrap_i64 (by omega) (by omega)]; rfl
        simp [a_bobbinlaw13_FrontTellsb4, e0, e6, hlt]
        by_cases hm : mayG x.g = true
        · refine (a_frOf x hx (by omega) (by omega) hm H1 N1).monoF ?_
          rintro r2 H2 N2 ⟨o, cs, rfl, hR⟩ hF2 _
          simp [e0, e1]
          refine (a_PlacedF (ls := r.l) (v := r.av) (H := H2) (N := N2) hx (by omega) (by omega) (by omega) (fun H' _ => hr.rd H')).mono ?_
          rintro r3 H3 N3 ⟨hs3, low3, _, hid3⟩
          have hws : frS x.g = frW x.g := by simp [frS, hm]
          rw [hws, frW_len] at hwl
          have lms : alen 1 (.ms o 0 x.g.length 1) = some (x.g.length : Int) := by simp
          simp [e0, e1, e5, hwl, lms, -alen]
          refine hP.acall ?_
          simp
          refine (p_Ints hs3.rd (rv_rd _ H3) (by unfold maxLen; omega) N3).mono ?_
          rintro r4 H4 N4 ⟨rfl, hH4, hN4⟩
          rw [hH4, hN4]
          simp
          have hR3 := hR.later hF2 low3
          refine ft_all (o := o) (n := x.g.length) (cs := cs) (w := frS x.g) (fr := frG x.g) (vp := r3) (lp := natI (plG x.g r.l)) (by omega) hW (by rw [hws, frW_len]) (fun b hb => by rw [hws]; exact frW_at hb) hR3 hs3 (fun k i n1 n2 hk1 h3 => ?_) ?_ ?_ ?_ ?_
          · have h4 := hR.below hF2 hk1
            have h5 := hid3 i n2 h3
            omega
          · simp [e5]
          · simp
          · simp
          intro A5 H5 hA5 hs5
          simp at hA5
          obtain ⟨k0, k1, k5, k6, k7, k8⟩ := hA5
          simp
          refine ft_placed (va := r3) hpl hs5 ?_ ?_ ?_
          · simp [k8]
          · simp
          intro A6 H6 hA6
          simp at hA6
          obtain ⟨q0, q1, q5, q6⟩ := hA6
          simp [q6, k6, e6, wr]
          exact ⟨2 - (j + 1), by omega, ⟨j + 1, rfl, by omega, by simp [q0, k0, e0], by simp [q1, k1, e1], by simp [q5, k5, e5], by simp⟩⟩
        · have hv0 : frV x.g = .sl .nil 0 [] := by simp [frV, hm]
          have hws : frS x.g = [] := by simp [frS, hm]
          rw [hws] at hwl
          refine (p_frOf x hx (by omega) (by omega)).acall ?_
          simp [e0, e1]
          refine (a_PlacedF (ls := r.l) (v := r.av) (H := H1) (N := N1) hx (by omega) (by omega) (by omega) (fun H' _ => hr.rd H')).mono ?_
          rintro r3 H3 N3 ⟨hs3, low3, _, hid3⟩
          simp [e0, e1, e5, hwl, -alen]
          refine hP.acall ?_
          simp
          refine (p_Ints hs3.rd (rv_rd _ H3) (by unfold maxLen; omega) N3).mono ?_
          rintro r4 H4 N4 ⟨rfl, hH4, hN4⟩
          rw [hH4, hN4]
          have hwl0 : alen 1 (frV x.g) = some 0 := hwl
          simp
          refine run_loop (fun k s => (s.A 0 = x.av ∧ s.A 1 = r.av ∧ s.A 5 = frV x.g ∧ s.A 6 = i64 j ∧ s.A 7 = frV x.g ∧ s.A 8 = r3 ∧ s.A 9 = i64 0 ∧ s.H = H3)) 0 ?_ ?_
          · simp [e0, e1, e5, e6]
          rintro k2 A5 H5 N5 ⟨k0, k1, k5, k6, k7, k8, k9, hH5⟩
          simp only at k0 k1 k5 k6 k7 k8 k9 hH5
          subst hH5
          simp [a_bobbinlaw13_FrontTellsb3, k7, k9, hwl0, -alen]
          refine ft_placed (va := r3) hpl hs3 ?_ ?_ ?_
          · simp [k8]
          · simp
          intro A6 H6 hA6
          simp at hA6
          obtain ⟨q0, q1, q5, q6⟩ := hA6
          simp [q6, k6, wr]
          exact ⟨2 - (j + 1), by omega, ⟨j + 1, rfl, by omega, by simp [q0, k0], by simp [q1, k1], by simp [q5, k5], by simp⟩⟩
end

end Go.Proofs.Ytmbbklddjkmcmaa
