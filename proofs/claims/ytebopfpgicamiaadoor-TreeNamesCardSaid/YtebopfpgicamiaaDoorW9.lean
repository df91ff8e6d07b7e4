/- tree: how deep each part of statements stands: the iterator, whole. -/
import Derived.Test.YtebopfpgicamiaaDoorW8
namespace Go.Proofs.YtebopfpgicamiaaDoor
set_option linter.unusedSimpArgs false
set_option linter.unusedVariables false
open Go Go.Fw
theorem partsOwn_0 (N : Nat) (v : AV) (d : Nat) : partsOwn N v d N = some (.blk [v]) := by simp [partsOwn, AHeap.set]
theorem partsOwn_1 (N : Nat) (v : AV) (d : Nat) : partsOwn N v d (N + 1) = some (.blk [i64 (d : Nat)]) := by simp [partsOwn, AHeap.set]
theorem partsOwn_2 (N : Nat) (v : AV) (d : Nat) : partsOwn N v d (N + 2) = some (exprBox (N + 2)) := by simp [partsOwn, AHeap.set]
theorem parts_seq : ∀ (n : Nat) (l : List StmtV), stmtSz l = n → ∀ (k : SK) (N d : Nat), d + stmtSz l + 1 ≤ 1000000000 → SeqF Tryd.prog 58 [.mp N 0, .mp (N + 1) 0, .mp (N + 2) 0] (partsOwn N (.sl k 8 (stmtCells l)) d) (px (prtSs l d)) := by
  intro n
  induction n using Nat.strongRecOn with
  | _ n ih =>
    intro l hn k N d hd
    refine ⟨goodFn_of c_tree_parts_2, fun y N0 K H J Kx hK hFH hdis h0 hy0 => ?_⟩
    have hy : YldC Tryd.prog y (px (prtSs l d)) N0 J Kx := hy0
    clear hy0
    obtain ⟨own, ho⟩ : ∃ o, partsOwn N (.sl k 8 (stmtCells l)) d = o := ⟨_, rfl⟩
    have o0 := partsOwn_0 N (.sl k 8 (stmtCells l)) d
    have o1 := partsOwn_1 N (.sl k 8 (stmtCells l)) d
    have o2 := partsOwn_2 N (.sl k 8 (stmtCells l)) d
    rw [ho] at o0 o1 o2 hFH hdis
    have hs : Sep own (J 0) H := ⟨K, hK, hFH, hdis, h0⟩
    obtain ⟨c1, e1⟩ : ∃ c, (.loop a_tree_parts_2b1 : ACode) = c := ⟨_, rfl⟩
    refine acallF mixed c_tree_parts_2 (by simp) fun hF => ?_
    have l0 := hF.lt (hs.at_ o0)
    have l1 := hF.lt (hs.at_ o1)
    have l2 := hF.lt (hs.at_ o2)
    have q0 := hs.at_ o0
    have hs1 := hs.alloc hF (.blk [.yl y])
    have F1 := hF.set (.blk [.yl y])
    have p0 : (own.set N0 (.blk [.yl y])) N = some (.blk [.sl k 8 (stmtCells l)]) := by simp only [AHeap.set]; rw [if_neg (by omega)]; exact o0
    have p1 : (own.set N0 (.blk [.yl y])) (N + 1) = some (.blk [i64 (d : Nat)]) := by simp only [AHeap.set]; rw [if_neg (by omega)]; exact o1
    have p2 : (own.set N0 (.blk [.yl y])) (N + 2) = some (exprBox (N + 2)) := by simp only [AHeap.set]; rw [if_neg (by omega)]; exact o2
    have p3 : (own.set N0 (.blk [.yl y])) N0 = some (.blk [.yl y]) := by simp [AHeap.set]
    have r0 := hs1.at_ p0
    unfold a_tree_parts_2
    simp [q0, show N ≠ N0 by omega]
    generalize own.set N0 (.blk [.yl y]) = own1 at hs1 p0 p1 p2 p3
    generalize H.set N0 (.blk [.yl y]) = Hx at hs1 F1 r0 ⊢
    refine run_loop (fun m s => ∃ i : Nat, i ≤ l.length ∧ m = l.length - i ∧ s.A 1 = .mp N 0 ∧ s.A 2 = .mp (N + 1) 0 ∧ s.A 3 = .mp (N + 2) 0 ∧ s.A 4 = .mp N0 0 ∧ s.A 10 = .sl k 8 (stmtCells l) ∧ s.A 11 = i64 l.length ∧ s.A 12 = i64 i ∧ N0 + 1 ≤ s.N ∧ Fresh s.H s.N ∧ Sep own1 (J (prtSs (l.take i) d).length) s.H) l.length ?_ ?_
    · exact ⟨0, by omega, by omega, by simp, by simp, by simp, by simp, by simp, by simp [stmtCells_len], by simp, Nat.le_refl _, F1, by simpa [prtSs] using hs1⟩
    · rintro m A1 H1 N1 ⟨i, hi, rfl, e1a, e2, e3, e4, e10, e11, e12, hN1, hF1, hS1⟩
      simp only at e1a e2 e3 e4 e10 e11 e12 hN1 hF1 hS1
      have hll := stmtSz_len l
      have hwi : IntKind.i64.wrap ((i : Int) + 1) = ((i + 1 : Nat) : Int) := by rw [wrap_i64 (by omega) (by omega)]; rfl
      unfold a_tree_parts_2b2
      rw [e1]
      by_cases hil : i < l.length
      · have n1 : (i : Int) < l.length := by omega
        obtain ⟨s, hsi⟩ : ∃ s, l[i]? = some s := ⟨l[i], List.getElem?_eq_getElem hil⟩
        have hsm := List.mem_of_getElem? hsi
        have hssz := stmtSz_mem hsm
        have hse := s.sz_eq
        have hce := s.cells_eq
        have hq : aindex 8 (.sl k 8 (stmtCells l)) (i64 (i : Nat)) = some (.ip s.cells 0) := aindex_sl (by omega) (by simpa using stmtCells_at hsi)
        have hla : ∀ X, aload X true 8 (.ip s.cells 0) = some (.agg s.cells) := fun X => by rw [hce]; rfl
        have hS2 := hS1.alloc hF1 (.blk s.cells)
        have hF2 := hF1.set (.blk s.cells)
        have hlt : ∀ {j o}, own1 j = some o → j < N1 := fun {j o} h => hF1.lt (hS1.at_ h)
        have s0 := hlt p0
        have s1 := hlt p1
        have s2 := hlt p2
        have s3 := hlt p3
        have hl12 : own1.le (own1.set N1 (.blk s.cells)) := fun j o h => by
          have := hlt h
          simp only [AHeap.set]; rw [if_neg (by omega)]; exact h
        have t1 := hl12 _ _ p1
        have t2 := hl12 _ _ p2
        have t3 := hl12 _ _ p3
        have t4 : (own1.set N1 (.blk s.cells)) N1 = some (.blk s.cells) := by simp [AHeap.set]
        have w1 := hS2.at_ t1
        have w3 := hS2.at_ t3
        rw [hce] at hq hla
        simp [e1a, e2, e3, e4, e10, e11, e12, n1, hq, hla, splice, -aload]
        rw [← hce]
        generalize own1.set N1 (.blk s.cells) = own2 at hS2 hl12 t1 t2 t3 t4
        generalize H1.set N1 (.blk s.cells) = H2 at hS2 hF2 w1 w3 ⊢
        simp [w1, w3, e2, e4]
        have hsp := take_prtS hsi d
        have hps := prtS_eq s d
        obtain ⟨P, hP⟩ : ∃ P, (prtSs (l.take i) d).length = P := ⟨_, rfl⟩
        rw [hP] at hS2
        have hpx0 : px (prtSs l d) = px (prtSs (l.take i) d) ++ (px [d] ++ px (prtEs s.e (d + 1) ++ (prtSs s.body (d + 1) ++ prtSs s.els (d + 1)) ++ prtSs (l.drop (i + 1)) d)) := by
          rw [hsp, hps]; simp [px]
        have hpx1 : px (prtSs l d) = px (prtSs (l.take i) d ++ [d]) ++ (px (prtEs s.e (d + 1)) ++ px (prtSs s.body (d + 1) ++ prtSs s.els (d + 1) ++ prtSs (l.drop (i + 1)) d)) := by
          rw [hsp, hps]; simp [px]
        have hpx2 : px (prtSs l d) = px (prtSs (l.take i) d ++ [d] ++ prtEs s.e (d + 1)) ++ (px (prtSs s.body (d + 1) ++ prtSs s.els (d + 1)) ++ px (prtSs (l.drop (i + 1)) d)) := by
          rw [hsp, hps]; simp [px]
        have hl0 : (px (prtSs (l.take i) d)).length = P := by rw [px_len, hP]
        have hl1 : (px (prtSs (l.take i) d ++ [d])).length = P + 1 := by rw [px_len, List.length_append, hP]; rfl
        have hl2 : (px (prtSs (l.take i) d ++ [d] ++ prtEs s.e (d + 1))).length = P + 1 + cntEs s.e := by rw [px_len, List.length_append, List.length_append, hP, prtEs_len]; rfl
        have hy0 := hy.part hpx0 (N' := N1 + 1) (by omega)
        rw [hl0] at hy0
        refine (YCall.sep hS2 fun K hK => hy0 0 [i64 (d : Nat)] K (N1 + 1) (by simp [px]) (Nat.le_refl _) hK).mono ?_
        rintro r H3 N3 ⟨⟨K3, u1, u2, u3, hR⟩, hF3, hN3⟩
        rcases hR with ⟨rfl, hJ3⟩ | ⟨rfl, hK3⟩
        · have hS3 : Sep own2 (J (P + 1)) H3 := ⟨K3, u1, u2, u3, hJ3⟩
          have w4 := hS3.at_ t4
          rw [hce] at w4
          simp [w4, e2, e3, e4]
          have hy1 := hy.part hpx1 (N' := N3) (by omega)
          rw [hl1] at hy1
          refine (p_allParts (k := s.ke) (l := s.e) (own := own2) (J := fun j => J (P + 1 + j)) (Kx := Kx) (y := y) (b := N + 1) (c := N + 2) (M := N0) (d := d) (by omega) t1 t2 t3 hS3 hy1).monoF ?_
          rintro r H4 N4 ⟨K4, v1, v2, v3, hR4⟩ hF4 hN4
          rcases hR4 with ⟨rfl, hJ4⟩ | ⟨rfl, hK4⟩
          · have hS4 : Sep own2 (J (P + 1 + cntEs s.e)) H4 := ⟨K4, v1, v2, v3, hJ4⟩
            have w5 := hS4.at_ t4
            rw [hce] at w5
            simp [w5]
            have hy2 := hy.part hpx2 (N' := N4) (by omega)
            rw [hl2] at hy2
            refine parts_kids e1 (own := own2) (J := fun j => J (P + 1 + cntEs s.e + j)) (Kx := Kx) (b := N + 1) (M := N0) (y := y) (d := d) (N0 := N4) (kb := s.kb) (kl := s.kl) (body := s.body) (els := s.els) (by omega) (fun k' l' M' hl' => ?_) t1 t3 (by simp [e2]) (by simp [e4]) (by simp) (by simp) (by simp) hF4 (Nat.le_refl _) hS4 hy2 (fun A5 H5 N5 hA5 hF5 hN5 hS5 => ?_) (fun A5 H5 N5 hN5 hS5 => ?_)
            · have hl2 : stmtSz l' ≤ stmtSz s.body + stmtSz s.els := by rcases hl' with rfl | rfl <;> omega
              exact ih (stmtSz l') (by omega) l' rfl k' M' (d + 1) (by omega)
            · have g1 := (hA5 1 (by simp)).trans (show _ = AV.mp N 0 by simp [e1a])
              have g2 := (hA5 2 (by simp)).trans (show _ = AV.mp (N + 1) 0 by simp [e2])
              have g3 := (hA5 3 (by simp)).trans (show _ = AV.mp (N + 2) 0 by simp [e3])
              have g4 := (hA5 4 (by simp)).trans (show _ = AV.mp N0 0 by simp [e4])
              have g10 := (hA5 10 (by simp)).trans (show _ = AV.sl k 8 (stmtCells l) by simp [e10])
              have g11 := (hA5 11 (by simp)).trans (show _ = i64 l.length by simp [e11])
              have g12 := (hA5 12 (by simp)).trans (show _ = i64 i by simp [e12])
              simp [g1, g2, g3, g4, g10, g11, g12, hwi]
              refine ⟨l.length - (i + 1), by omega, i + 1, by omega, rfl, rfl, by omega, hF5, ?_⟩
              have h1 := take_prtS1 hsi d
              rw [cntS_eq] at h1
              rw [show (prtSs (List.take (i + 1) l) d).length = P + 1 + cntEs s.e + (cntSs s.body + cntSs s.els) by omega]
              exact hS5.less hl12
            · obtain ⟨K5, x1, _, _, x4⟩ := hS5
              simp
              exact ⟨by omega, K5, x1, .inr x4⟩
          · simp
            exact ⟨by omega, K4, v1, .inr hK4⟩
        · simp
          exact ⟨by omega, K3, u1, .inr hK3⟩
      · have n1 : ¬ (i : Int) < l.length := by omega
        have hie : i = l.length := by omega
        subst hie
        rw [List.take_length] at hS1
        obtain ⟨K5, x1, _, _, x4⟩ := hS1
        simp [e11, e12]
        exact ⟨by omega, K5, x1, .inl (by rw [px_len]; exact x4)⟩
end Go.Proofs.YtebopfpgicamiaaDoor
