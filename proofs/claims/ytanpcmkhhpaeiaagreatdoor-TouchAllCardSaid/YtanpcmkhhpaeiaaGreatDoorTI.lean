/- touch: the law TouchOwn, inner loops. -/
import Derived.Test.YtanpcmkhhpaeiaaGreatDoorTH
import Derived.Test.YtanpcmkhhpaeiaaGreatDoorKO
namespace Go.Proofs.YtanpcmkhhpaeiaaGreatDoor
set_option linter.unusedSimpArgs false
set_option linter.unusedVariables false
open Go Go.Fw
theorem thrL_pre (l : List FunV) (i : Nat) : ∃ r, thrL l = thrL (l.take i) ++ r := by
  unfold thrL
  refine ⟨(((l.drop i).zipIdx (0 + (l.take i).length)).filter fun x => x.1.thread).map fun x => (x.2 : Int), ?_⟩
  rw [← List.map_append, ← List.filter_append, ← List.zipIdx_append, List.take_append_drop]
theorem thr_at {l : List FunV} {i : Nat} (hi : i < l.length) (ht : l[i].thread = true) : (thrL l)[(thrL (l.take i)).length]? = some (i : Int) := by
  obtain ⟨r, hr⟩ := thrL_pre l (i + 1)
  rw [hr, thrL_next hi, if_pos ht, List.append_assoc, List.getElem?_append_right (Nat.le_refl _)]
  simp
theorem joinL_has {v : Int} {l : List Int} (hl : l.Pairwise (· < ·)) (hv : v ∈ l) : joinL [v] l = l :=
  eq_of_lt _ _ (joinL_lt _ _) hl fun w => by
    rw [joinL_mem]
    constructor
    · rintro (h | h)
      · rw [List.mem_singleton.1 h]; exact hv
      · exact h
    · exact .inr
theorem p_within {la lb : List Int} {a b : AV} {H : AHeap} (ha : Lst H la a) (hb : Lst H lb b) (hl : la.length + lb.length ≤ 1000000000) (N : Nat) :
    ACall Tryz.prog 25 [a, b] H N (fun r H' N' => r = bl (decide (joinL la lb = lb)) ∧ N ≤ N' ∧ ∀ j, j < N → H' j = H j) := by
  have hm : maxLen = 9223372036854775807 := rfl
  refine acallF mixed c_bobbinlaw18_within (by simp) fun hF => ?_
  simp [a_bobbinlaw18_within]
  refine (p_refJoin ha hb hl N).mono ?_
  rintro v H1 N1 ⟨hN1, hk1, hv⟩
  simp
  refine (p_Ints (la := joinL la lb) (lb := lb) hv.lst.rd (hb.keep hF hk1).rd (by have := joinL_len la lb; omega) N1).mono ?_
  rintro r2 H2 N2 ⟨rfl, rfl, rfl⟩
  simp
  exact ⟨hN1, hk1⟩
/-- What the loops go over: a Fun's code and what it does by itself. -/
structure OwnC (p : PrgV) (i : Nat) (f : FunV) (H0 : AHeap) (N0 : Nat) (ws : Nat → AV) : Prop where
  fi : p.funs[i]? = some f
  few : f.code.length ≤ 600
  ws : ∀ k, k < 5 → Lst H0 ((ownV f.code).get k) (ws k)
  F : Fresh H0 N0
def lsV (ws : Nat → AV) : AV := .sl .exact 1 [[ws 0], [ws 1], [ws 2], [ws 3], [ws 4]]
def opV : AV := .sl .exact 1 [[u8 5], [u8 6], [u8 7], [u8 8], [u8 10]]
theorem ls_at (ws : Nat → AV) {k : Nat} (hk : k < 5) : aindex 1 (lsV ws) (i64 (k : Nat)) = some (.ip [ws k] 0) := by
  match k, hk with
  | 0, _ => rfl
  | 1, _ => rfl
  | 2, _ => rfl
  | 3, _ => rfl
  | 4, _ => rfl
theorem op_at {k : Nat} (hk : k < 5) : aindex 1 opV (i64 (k : Nat)) = some (.ip [u8 (opK k)] 0) := by
  match k, hk with
  | 0, _ => rfl
  | 1, _ => rfl
  | 2, _ => rfl
  | 3, _ => rfl
  | 4, _ => rfl
theorem ip_one (X : AHeap) (a : AV) : aload X false 1 (.ip [a] 0) = some a := rfl
/-- What stands in the temporaries. -/
structure OwnT (p : PrgV) (i k : Nat) (ws : Nat → AV) (A : Nat → AV) : Prop where
  t1 : A 1 = .ip p.cells 0
  t5 : A 5 = i64 (i : Nat)
  t7 : A 7 = lsV ws
  t8 : A 8 = opV
  t9 : A 9 = i64 (k : Nat)
def keptO : List Nat := [1, 3, 4, 5, 7, 8, 9]
theorem OwnT.to {p : PrgV} {i k : Nat} {ws : Nat → AV} {A A' : Nat → AV} (h : OwnT p i k ws A) (hk : ∀ t ∈ keptO, A' t = A t) : OwnT p i k ws A' :=
  ⟨(hk 1 (by decide)).trans h.t1, (hk 5 (by decide)).trans h.t5, (hk 7 (by decide)).trans h.t7, (hk 8 (by decide)).trans h.t8, (hk 9 (by decide)).trans h.t9⟩
section
variable {A : Nat → AV} {H H0 : AHeap} {N N0 : Nat} {fs : List Fr} {Q : Post} {p : PrgV} {i k : Nat} {f : FunV} {ws : Nat → AV}
/-- Each of the Fun's instructions: where its number is asked for, it is there. -/
theorem own_b1 {c : ACode} (hc : .loop a_bobbinlaw18_TouchOwnb1 = c) (hC : OwnC p i f H0 N0 ws) (hT : OwnT p i k ws A) (hk5 : k < 5) (h14 : A 14 = i64 0) (hF : Fresh H N) (hN : N0 ≤ N) (hold : ∀ j, j < N0 → H j = H0 j)
    (hk : ∀ A' H' N', (∀ t ∈ keptO, A' t = A t) → Fresh H' N' → N0 ≤ N' → (∀ j, j < N0 → H' j = H0 j) → onward Tryz.prog fs Q .normal ⟨A', H', N'⟩) : run Tryz.prog c (.blk 8 :: fs) Q ⟨A, H, N⟩ := by
  subst hc
  have hfi := hC.fi
  have hil : i < p.funs.length := (List.getElem?_eq_some_iff.1 hfi).1
  have hq : aindex 5 (.sl p.fk 5 (funCells p.funs)) (i64 (i : Nat)) = some (.ip f.cells 0) := aindex_sl (by omega) (by simp [funCells, hfi])
  have hfew := hC.few
  refine run_loop (fun m s => ∃ n : Nat, n ≤ f.code.length ∧ m = f.code.length - n ∧ (∀ t ∈ keptO, s.A t = A t) ∧ s.A 14 = i64 n ∧ Fresh s.H s.N ∧ N0 ≤ s.N ∧ ∀ j, j < N0 → s.H j = H0 j) f.code.length ?_ ?_
  · exact ⟨0, by omega, by omega, fun t _ => rfl, h14, hF, hN, hold⟩
  · rintro m A1 H1 N1 ⟨n, hn, rfl, hk1, e14, hF1, hN1, hold1⟩
    simp only at hk1 e14 hF1 hN1 hold1
    obtain ⟨t1, t5, t7, t8, t9⟩ := hT.to hk1
    by_cases hnl : n = f.code.length
    · have n1 : ¬ ((n : Int) < f.code.length) := by omega
      simp [a_bobbinlaw18_TouchOwnb1, t1, t5, e14, hq, n1]
      exact hk _ _ _ (fun t ht => Eq.trans ((by simp [keptO] : ∀ t ∈ keptO, _ = A1 t) t ht) (hk1 t ht)) hF1 hN1 hold1
    · have hlt : n < f.code.length := by omega
      obtain ⟨x, hx⟩ : ∃ x, f.code[n]? = some x := ⟨f.code[n], List.getElem?_eq_getElem hlt⟩
      have hq2 : aindex 6 (.sl f.k 6 (codeCells f.code)) (i64 (n : Nat)) = some (.ip x.cells 0) := aindex_sl (by omega) (by simp [codeCells, hx])
      have hxc : x.cells = [u8 x.op, i64 x.r, i64 x.a, i64 x.b, i64 x.n, .sl x.k x.z (intCells x.args)] := rfl
      rw [hxc] at hq2
      have n1 : (n : Int) < f.code.length := by omega
      have holdX : ∀ (o : AObj) (j : Nat), j < N0 → (H1.set N1 o) j = H0 j := fun o j hj => by simp only [AHeap.set]; rw [if_neg (by omega)]; exact hold1 j hj
      have hwj : IntKind.i64.wrap ((n : Int) + 1) = ((n + 1 : Nat) : Int) := by rw [wrap_i64 (by omega) (by omega)]; rfl
      have kk : ∀ A' : Nat → AV, (∀ t ∈ keptO, A' t = A1 t) → ∀ t ∈ keptO, A' t = A t := fun A' h t ht => (h t ht).trans (hk1 t ht)
      have hwc := (hC.ws k hk5).cells
      by_cases hop : x.op = opK k
      · have hLk := (hC.ws k hk5).keep hC.F (holdX (.blk [u8 (opK k), i64 x.r, i64 x.a, i64 x.b, i64 x.n, .sl x.k x.z (intCells x.args)]))
        have hmem : x.n ∈ (ownV f.code).get k := (ownV_mem hk5).2 ⟨x, List.mem_of_getElem? hx, hop, rfl⟩
        have hjo := joinL_has (ownV_lt f.code k) hmem
        have hlen := get_of_le (ownV_le f.code) k
        simp [a_bobbinlaw18_TouchOwnb1, t1, t5, t7, t8, t9, e14, hq, hq2, n1, splice, ls_at ws hk5, op_at hk5, hop]
        refine (p_within (la := [x.n]) (lb := (ownV f.code).get k) (Lst.sl .exact) hLk (by simp; omega) (N1 + 1)).monoF ?_
        rintro r2 H2 N2 ⟨rfl, hN2, hk2⟩ hF2 _
        simp [hjo, e14, hwj]
        exact ⟨f.code.length - (n + 1), by omega, n + 1, by omega, rfl, kk _ (by simp [keptO]), rfl, hF2, by omega, fun j hj => (hk2 j (by omega)).trans (holdX _ j hj)⟩
      · simp [a_bobbinlaw18_TouchOwnb1, t1, t5, t7, t8, t9, e14, hq, hq2, n1, splice, ls_at ws hk5, op_at hk5, hop, hwj]
        refine ⟨f.code.length - (n + 1), by omega, n + 1, by omega, rfl, kk _ (by simp [keptO]), rfl, hF1.set _, by omega, fun j hj => ?_⟩
        rw [if_neg (by omega)]
        exact hold1 j hj
end
end Go.Proofs.YtanpcmkhhpaeiaaGreatDoor
