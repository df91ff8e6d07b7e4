/- touch: back: what the program hands out, as the document's, and written over then. -/
import Derived.Test.YtanpcmkhhpaeiaaGreatDoorM5
import Derived.Test.YtanpcmkhhpaeiaaGreatDoorJA
import Derived.Test.YtanpcmkhhpaeiaaGreatDoorKB
namespace Go.Proofs.YtanpcmkhhpaeiaaGreatDoor
set_option linter.unusedSimpArgs false
set_option linter.unusedVariables false
open Go Go.Fw
theorem chunks_ints (l : List Int) : chunks 1 l.length (l.map i64) = intCells l := by
  induction l with
  | nil => rfl
  | cons x l ih =>
    simp only [intCells, List.map_cons, List.length_cons, chunks] at ih ⊢
    rw [List.take_succ_cons, List.take_zero, List.drop_succ_cons, List.drop_zero, ih]
/-- A copy that nobody writes. -/
theorem afap_lst {H : AHeap} {l : List Int} {v : AV} (h : Lst H l v) (hl : l.length ≤ 1000000) : ∃ k, afap 1 8 H (.sl .exact 1 []) v = some (.sl k 1 (intCells l)) := by
  have hs := h.src
  by_cases h0 : l.length = 0
  · have : l = [] := List.eq_nil_of_length_eq_zero h0
    subst this
    exact ⟨.exact, by simp only [afap, aappend, hs, List.length_nil, if_true]; rfl⟩
  · refine ⟨.any, ?_⟩
    simp only [afap, aappend, hs]
    rw [if_neg h0, if_pos ⟨.inl trivial, by unfold lim; simp only [List.length_nil]; omega, by simp only [List.length_nil]; omega⟩]
    simp [chunks_ints]

/-- A row that may be written. -/
def Wrt (H : AHeap) (P : Nat → Prop) (n : Nat) (v : AV) : Prop := (n = 0 ∧ v = .sl .nil 0 []) ∨ (0 < n ∧ ∃ (id : Nat) (ds : List AV), P id ∧ v = .ms id 0 n 1 ∧ H id = some (.blk ds) ∧ n ≤ ds.length)
theorem FshV.wrt {H : AHeap} {P : Nat → Prop} {l : List Int} {v : AV} (h : FshV H P l v) : Wrt H P l.length v := by
  rcases h with ⟨rfl, rfl⟩ | ⟨h0, id, ds, h1, rfl, h2, h3, _⟩
  · exact .inl ⟨rfl, rfl⟩
  · exact .inr ⟨List.length_pos_iff.2 h0, id, ds, h1, rfl, h2, h3⟩
theorem FshV.lst {H : AHeap} {P : Nat → Prop} {l : List Int} {v : AV} (h : FshV H P l v) : Lst H l v := by
  rcases h with ⟨rfl, rfl⟩ | ⟨_, id, ds, _, rfl, h1, h2, h3⟩
  · exact .nil _ _
  · exact .inr ⟨id, 0, ds, rfl, h1, by omega, by simpa using h3⟩
theorem Wrt.cells {H : AHeap} {P : Nat → Prop} {n : Nat} {v : AV} (h : Wrt H P n v) : v.cells = some [v] := by
  rcases h with ⟨_, rfl⟩ | ⟨_, _, _, _, rfl, _⟩ <;> rfl
theorem Wrt.len {H : AHeap} {P : Nat → Prop} {n : Nat} {v : AV} (h : Wrt H P n v) : alen 1 v = some (n : Int) := by
  rcases h with ⟨rfl, rfl⟩ | ⟨_, _, _, _, rfl, _⟩ <;> rfl
/-- An element written: all such rows stay as they are, but for what stands in them. -/
theorem Wrt.put {H : AHeap} {P : Nat → Prop} {n : Nat} {v : AV} (h : Wrt H P n v) {i : Nat} (hi : i < n) (x : AV) (hx : x.cells = some [x]) :
    ∃ id ds, P id ∧ aindex 1 v (i64 (i : Nat)) = some (.mp id i) ∧ H id = some (.blk ds) ∧ i < ds.length ∧ ∀ {m : Nat} {w : AV}, Wrt H P m w → Wrt (H.set id (.blk (ds.set i x))) P m w := by
  rcases h with ⟨rfl, _⟩ | ⟨_, id, ds, h1, rfl, h2, h3⟩
  · omega
  · refine ⟨id, ds, h1, ?_, h2, by omega, fun {m} {w} hw => ?_⟩
    · simp only [aindex]
      simp
      omega
    · rcases hw with hw | ⟨p0, id', ds', p1, rfl, p2, p3⟩
      · exact .inl hw
      · by_cases he : id' = id
        · subst he
          rw [h2] at p2
          cases p2
          exact .inr ⟨p0, id', ds.set i x, p1, rfl, by simp [AHeap.set], by rw [List.length_set]; exact p3⟩
        · exact .inr ⟨p0, id', ds', p1, rfl, by simp only [AHeap.set]; rw [if_neg he]; exact p2, p3⟩

section
variable {A : Nat → AV} {H : AHeap} {N : Nat} {fs : List Fr} {Q : Post}
/-- What is known while rows are written over. -/
structure BkC (H0 : AHeap) (N0 : Nat) (P : Nat → Prop) (ns : List Nat) (vs : List AV) (H : AHeap) (N : Nat) : Prop where
  F : Fresh H N
  N : N0 ≤ N
  old : ∀ j, j < N0 → ¬ P j → H j = H0 j
  rows : ∀ (k : Nat) (v : AV) (n : Nat), vs[k]? = some v → ns[k]? = some n → Wrt H P n v
def BkI (A : Nat → AV) (H0 : AHeap) (N0 : Nat) (P : Nat → Prop) (ns : List Nat) (vs : List AV) (n : Nat) (m : Nat) (s : St) : Prop :=
  ∃ i : Nat, i ≤ n ∧ m = n - i ∧ (∀ t ∈ [2, 3, 5, 38, 39, 40], s.A t = A t) ∧ s.A 6 = i64 i ∧ BkC H0 N0 P ns vs s.H s.N
theorem bk_in {c : ACode} (hc : .loop a_bobbinlaw18_backb1 = c) {H0 : AHeap} {N0 : Nat} {P : Nat → Prop} {ns : List Nat} {vs : List AV} (hC : BkC H0 N0 P ns vs H N) {k n : Nat} {v : AV} (hv : vs[k]? = some v) (hn : ns[k]? = some n) (hl : n ≤ 1000000) (h5 : A 5 = v) (h6 : A 6 = i64 0)
    (hP : ∀ j, P j → j < N0)
    (hk : ∀ A' H' N', (∀ t ∈ [2, 3, 38, 39, 40], A' t = A t) → BkC H0 N0 P ns vs H' N' → onward Tryz.prog fs Q .normal ⟨A', H', N'⟩) : run Tryz.prog c (.blk 2 :: fs) Q ⟨A, H, N⟩ := by
  subst hc
  refine run_loop (BkI A H0 N0 P ns vs n) n ?_ ?_
  · exact ⟨0, by omega, by omega, fun t _ => rfl, h6, hC⟩
  · rintro m A1 H1 N1 ⟨i, hi, rfl, hA, e6, hC1⟩
    simp only at hA e6 hC1
    have e5 : A1 5 = v := (hA 5 (by simp)).trans h5
    have hw := hC1.rows k v n hv hn
    have hlen := hw.len
    have hwi : IntKind.i64.wrap ((i : Int) + 1) = ((i + 1 : Nat) : Int) := by rw [wrap_i64 (by omega) (by omega)]; rfl
    by_cases hil : i < n
    · have n1 : (i : Int) < n := by omega
      obtain ⟨id, ds, p1, p2, p3, p4, p5⟩ := hw.put hil (i64 (-7)) rfl
      have p6 : i + 1 ≤ ds.length := p4
      simp [a_bobbinlaw18_backb1, e5, e6, hlen, n1, p2, p3, p6, hwi, -alen]
      refine ⟨n - (i + 1), by omega, i + 1, by omega, rfl, fun t ht => ?_, by simp, Fresh.rewr hC1.F p3, hC1.N, fun j hj hnp => ?_, fun k' v' n' hv' hn' => p5 (hC1.rows k' v' n' hv' hn')⟩
      · simp only [List.mem_cons, List.not_mem_nil, or_false] at ht
        rcases ht with rfl | rfl | rfl | rfl | rfl | rfl <;> simp [hA]
      · simp only [AHeap.set]; rw [if_neg (fun h : j = id => hnp (by rw [h]; exact p1))]; exact hC1.old j hj hnp
    · have n1 : ¬ ((i : Int) < n) := by omega
      simp [a_bobbinlaw18_backb1, e5, e6, hlen, n1, -alen]
      refine hk _ _ _ (fun t ht => ?_) hC1
      simp only [List.mem_cons, List.not_mem_nil, or_false] at ht
      rcases ht with rfl | rfl | rfl | rfl | rfl <;> simp [hA]

def BkO (A : Nat → AV) (H0 : AHeap) (N0 : Nat) (P : Nat → Prop) (ns : List Nat) (vs : List AV) (m : Nat) (s : St) : Prop :=
  ∃ k : Nat, k ≤ 5 ∧ m = 5 - k ∧ (∀ t ∈ [2, 3, 38, 39], s.A t = A t) ∧ s.A 40 = i64 k ∧ BkC H0 N0 P ns vs s.H s.N
theorem bk_out {c : ACode} (hc : .loop a_bobbinlaw18_backb2 = c) {H0 : AHeap} {N0 : Nat} {P : Nat → Prop} {n0 n1 n2 n3 n4 : Nat} {v0 v1 v2 v3 v4 : AV} (hC : BkC H0 N0 P [n0, n1, n2, n3, n4] [v0, v1, v2, v3, v4] H N) (hl : ∀ n ∈ [n0, n1, n2, n3, n4], n ≤ 1000000)
    (h38 : A 38 = .sl .exact 1 [[v0], [v1], [v2], [v3], [v4]]) (h39 : A 39 = i64 5) (h40 : A 40 = i64 0) (hP : ∀ j, P j → j < N0)
    (hk : ∀ A' H' N', (∀ t ∈ [2, 3], A' t = A t) → BkC H0 N0 P [n0, n1, n2, n3, n4] [v0, v1, v2, v3, v4] H' N' → onward Tryz.prog fs Q .normal ⟨A', H', N'⟩) : run Tryz.prog c (.blk 0 :: fs) Q ⟨A, H, N⟩ := by
  subst hc
  obtain ⟨c1, e1⟩ : ∃ c, (.loop a_bobbinlaw18_backb1 : ACode) = c := ⟨_, rfl⟩
  refine run_loop (BkO A H0 N0 P [n0, n1, n2, n3, n4] [v0, v1, v2, v3, v4]) 5 ?_ ?_
  · exact ⟨0, by omega, by omega, fun t _ => rfl, h40, hC⟩
  · rintro m A1 H1 N1 ⟨k, hk5, rfl, hA, e40, hC1⟩
    simp only at hA e40 hC1
    have e38 : A1 38 = .sl .exact 1 [[v0], [v1], [v2], [v3], [v4]] := (hA 38 (by simp)).trans h38
    have e39 : A1 39 = i64 5 := (hA 39 (by simp)).trans h39
    have hwi : IntKind.i64.wrap ((k : Int) + 1) = ((k + 1 : Nat) : Int) := by rw [wrap_i64 (by omega) (by omega)]; rfl
    by_cases hkl : k < 5
    · have q1 : (k : Int) < 5 := by omega
      obtain ⟨v, hv⟩ : ∃ v, [v0, v1, v2, v3, v4][k]? = some v := ⟨_, List.getElem?_eq_getElem (by simpa using hkl)⟩
      obtain ⟨n, hn⟩ : ∃ n, [n0, n1, n2, n3, n4][k]? = some n := ⟨_, List.getElem?_eq_getElem (by simpa using hkl)⟩
      have hix : aindex 1 (.sl .exact 1 [[v0], [v1], [v2], [v3], [v4]]) (i64 (k : Nat)) = some (.ip [v] 0) := by
        have hc : k = 0 ∨ k = 1 ∨ k = 2 ∨ k = 3 ∨ k = 4 := by omega
        rcases hc with rfl | rfl | rfl | rfl | rfl <;> (simp at hv; subst hv; rfl)
      unfold a_bobbinlaw18_backb2
      rw [e1]
      simp [e38, e39, e40, q1, hix]
      refine bk_in e1 hC1 hv hn (hl n (List.mem_of_getElem? hn)) (by simp) (by simp) hP fun A2 H2 N2 hA2 hC2 => ?_
      have f40 : A2 40 = i64 k := (hA2 40 (by simp)).trans (by simp [e40])
      simp [f40, hwi]
      refine ⟨5 - (k + 1), by omega, k + 1, by omega, rfl, fun t ht => ?_, by simp, hC2⟩
      simp only [List.mem_cons, List.not_mem_nil, or_false] at ht
      rcases ht with rfl | rfl | rfl | rfl <;> simp [hA2, hA]
    · have q1 : ¬ ((k : Int) < 5) := by omega
      unfold a_bobbinlaw18_backb2
      rw [e1]
      simp [e38, e39, e40, q1]
      refine hk _ _ _ (fun t ht => ?_) hC1
      simp only [List.mem_cons, List.not_mem_nil, or_false] at ht
      rcases ht with rfl | rfl <;> simp [hA]
end

theorem p_back {H : AHeap} {P : Nat → Prop} {S : SumV} {a b c d e : AV} (h : AtV H P S a b c d e) (hS : S.le 1000000) (N : Nat) :
    ACall Tryz.prog 18 [.agg [a, b, c, d, e]] H N (fun r H' N' => N ≤ N' ∧ (∀ j, j < N → ¬ P j → H' j = H j) ∧ ∃ k0 k1 k2 k3 k4, r = .agg [.sl k0 1 (intCells S.r), .sl k1 1 (intCells S.w), .sl k2 1 (intCells S.t), .sl k3 1 (intCells S.g), .sl k4 1 (intCells S.c)]) := by
  obtain ⟨s1, s2, s3, s4, s5⟩ := hS
  refine acallF mixed c_bobbinlaw18_back (by simp) fun hF => ?_
  have hX0 : ∀ j, j < N → (H.set N (.blk [.sl .nil 0 [], .sl .nil 0 [], .sl .nil 0 [], .sl .nil 0 [], .sl .nil 0 []])) j = H j := fun j hj => by simp only [AHeap.set]; rw [if_neg (by omega)]
  have FX0 : Fresh (H.set N (.blk [.sl .nil 0 [], .sl .nil 0 [], .sl .nil 0 [], .sl .nil 0 [], .sl .nil 0 []])) (N + 1) := hF.set _
  have ca := h.r.lst.cells
  have cb := h.w.lst.cells
  have cc := h.t.lst.cells
  have cd := h.g.lst.cells
  have ce := h.c.lst.cells
  obtain ⟨k0, f0⟩ := afap_lst (h.r.lst.keep hF hX0) s1
  obtain ⟨k1, f1⟩ := afap_lst (h.w.lst.keep hF hX0) s2
  obtain ⟨k2, f2⟩ := afap_lst (h.t.lst.keep hF hX0) s3
  obtain ⟨k3, f3⟩ := afap_lst (h.g.lst.keep hF hX0) s4
  obtain ⟨k4, f4⟩ := afap_lst (h.c.lst.keep hF hX0) s5
  obtain ⟨c2, e2⟩ : ∃ c, (.loop a_bobbinlaw18_backb2 : ACode) = c := ⟨_, rfl⟩
  have hn : (H.set N (.blk [.sl .nil 0 [], .sl .nil 0 [], .sl .nil 0 [], .sl .nil 0 [], .sl .nil 0 []])) (N + 1) = none := FX0 _ (Nat.le_refl _)
  unfold a_bobbinlaw18_back
  rw [e2]
  simp [ca, cb, cc, cd, ce, f0, f1, f2, f3, f4, hF (N + 1) (by omega), splice, -AV.cells]
  have hX : ∀ (o : AObj) (j : Nat), j < N → ((H.set N (.blk [.sl .nil 0 [], .sl .nil 0 [], .sl .nil 0 [], .sl .nil 0 [], .sl .nil 0 []])).set (N + 1) o) j = H j := fun o j hj => by simp only [AHeap.set]; rw [if_neg (by omega), if_neg (by omega)]
  have hX1 : ∀ o : AObj, ((H.set N (.blk [.sl .nil 0 [], .sl .nil 0 [], .sl .nil 0 [], .sl .nil 0 [], .sl .nil 0 []])).set (N + 1) o) N = some (.blk [.sl .nil 0 [], .sl .nil 0 [], .sl .nil 0 [], .sl .nil 0 [], .sl .nil 0 []]) := fun o => by simp only [AHeap.set]; rw [if_neg (by omega)]; simp
  have hX2 : ∀ o : AObj, ((H.set N (.blk [.sl .nil 0 [], .sl .nil 0 [], .sl .nil 0 [], .sl .nil 0 [], .sl .nil 0 []])).set (N + 1) o) (N + 1) = some o := fun o => by simp [AHeap.set]
  have FX : ∀ o : AObj, Fresh ((H.set N (.blk [.sl .nil 0 [], .sl .nil 0 [], .sl .nil 0 [], .sl .nil 0 [], .sl .nil 0 []])).set (N + 1) o) (N + 2) := fun o => FX0.set _
  obtain ⟨Y, hY⟩ : ∃ Y, (H.set N (.blk [.sl .nil 0 [], .sl .nil 0 [], .sl .nil 0 [], .sl .nil 0 [], .sl .nil 0 []])).set (N + 1) (.blk [.sl k0 1 (intCells S.r), .sl k1 1 (intCells S.w), .sl k2 1 (intCells S.t), .sl k3 1 (intCells S.g), .sl k4 1 (intCells S.c)]) = Y := ⟨_, rfl⟩
  replace hX := hX (.blk [.sl k0 1 (intCells S.r), .sl k1 1 (intCells S.w), .sl k2 1 (intCells S.t), .sl k3 1 (intCells S.g), .sl k4 1 (intCells S.c)])
  replace hX1 := hX1 (.blk [.sl k0 1 (intCells S.r), .sl k1 1 (intCells S.w), .sl k2 1 (intCells S.t), .sl k3 1 (intCells S.g), .sl k4 1 (intCells S.c)])
  replace hX2 := hX2 (.blk [.sl k0 1 (intCells S.r), .sl k1 1 (intCells S.w), .sl k2 1 (intCells S.t), .sl k3 1 (intCells S.g), .sl k4 1 (intCells S.c)])
  replace FX := FX (.blk [.sl k0 1 (intCells S.r), .sl k1 1 (intCells S.w), .sl k2 1 (intCells S.t), .sl k3 1 (intCells S.g), .sl k4 1 (intCells S.c)])
  rw [hY] at hX hX1 hX2 FX ⊢
  have keepV : ∀ {l : List Int} {v : AV}, FshV H P l v → FshV Y (fun id => P id ∧ id < N) l v := fun h => h.keep hF (fun id _ hid => hX id hid) (fun id h1 h2 => ⟨h1, h2⟩)
  have hC : BkC Y (N + 2) (fun id => P id ∧ id < N) [S.r.length, S.w.length, S.t.length, S.g.length, S.c.length] [a, b, c, d, e] Y (N + 2) := by
    refine ⟨FX, Nat.le_refl _, fun _ _ _ => rfl, fun k v n hv hn => ?_⟩
    have hk5 : k < 5 := by have := (List.getElem?_eq_some_iff.1 hv).1; simpa using this
    have hc : k = 0 ∨ k = 1 ∨ k = 2 ∨ k = 3 ∨ k = 4 := by omega
    rcases hc with rfl | rfl | rfl | rfl | rfl <;> (simp at hv hn; subst hv; subst hn)
    · exact (keepV h.r).wrt
    · exact (keepV h.w).wrt
    · exact (keepV h.t).wrt
    · exact (keepV h.g).wrt
    · exact (keepV h.c).wrt
  refine bk_out e2 hC (by simp; omega) (by simp) (by simp) (by simp) (fun j hj => by omega) fun A' H' N' hA hB => ?_
  have q2 : A' 2 = .mp N 0 := (hA 2 (by simp)).trans (by simp)
  have q3 : A' 3 = .mp (N + 1) 0 := (hA 3 (by simp)).trans (by simp)
  have b2 := (hB.old N (by omega) (by omega)).trans hX1
  have b3 := (hB.old (N + 1) (by omega) (by omega)).trans hX2
  simp [q2, q3, b2, b3, splice]
  refine ⟨by have := hB.N; omega, fun j hj hnp => ?_⟩
  rw [if_neg (by omega)]
  exact (hB.old j (by omega) (fun h => hnp h.1)).trans (hX j hj)
end Go.Proofs.YtanpcmkhhpaeiaaGreatDoor
