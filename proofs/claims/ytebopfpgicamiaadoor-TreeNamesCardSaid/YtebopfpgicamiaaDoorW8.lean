/- tree: how deep each part of statements stands: an iterator. -/
import Derived.Test.YtebopfpgicamiaaDoorW7
namespace Go.Proofs.YtebopfpgicamiaaDoor
set_option linter.unusedSimpArgs false
set_option linter.unusedVariables false
open Go Go.Fw
theorem p_allParts {k : SK} {l : List ExprV} {own H : AHeap} {J : Nat → AHeap → Prop} {Kx : AHeap → Prop} {N y b c M d : Nat} (hd : d + 1 + exprSz l ≤ 1000000000) (ob : own b = some (.blk [i64 (d : Nat)])) (oc : own c = some (exprBox c)) (om : own M = some (.blk [.yl y]))
    (hs : Sep own (J 0) H) (hy : YldC Tryd.prog y (px (prtEs l (d + 1))) N J Kx) :
    ACall Tryd.prog 42 [.sl k 5 (exprCells l), .fn (.func 59) [] [.mp c 0, .mp b 0, .mp M 0]] H N (fun r H' _ => Sep own (AskR (cntEs l) J Kx r) H') := by
  refine (p_all_Expr (J := fun i => Sep own (J (prtEs (l.take i) (d + 1)).length)) (Kx := Sep own Kx) (exprCells_sz _) (by rw [exprCells_len]; have := exprSz_len l; omega) (fun i x H1 N1 hx hN1 hJ => ?_) (by simpa [prtEs] using hs)).mono ?_
  · obtain ⟨a, ha, rfl⟩ : ∃ a, l[i]? = some a ∧ x = .agg a.cells := by
      simp [exprCells_map] at hx
      obtain ⟨a, h1, h2⟩ := hx
      exact ⟨a, h1, h2.symm⟩
    have q1 := hJ.at_ ob
    have q2 := hJ.at_ om
    have q3 := hJ.at_ oc
    have ham := List.mem_of_getElem? ha
    have hasz := exprSz_mem ham
    have hac := a.cells_eq
    have hla : ∀ X, aload X true 5 (.ip a.cells 0) = some (.agg a.cells) := fun X => by rw [hac]; rfl
    have hwd : IntKind.i64.wrap ((d : Int) + 1) = ((d + 1 : Nat) : Int) := by rw [wrap_i64 (by omega) (by omega)]; rfl
    refine acallF mixed c_tree_parts_2_1 (by simp) fun hF1 => ?_
    simp only [exprBox] at q3
    simp [a_tree_parts_2_1, q1, q2, q3, hla, hwd, hac]
    have hsp := take_prt ha (d + 1)
    have hpx : px (prtEs l (d + 1)) = px (prtEs (l.take i) (d + 1)) ++ (px (prtE a (d + 1)) ++ px (prtEs (l.drop (i + 1)) (d + 1))) := by
      rw [hsp]; simp [px]
    have hcast : ((d + 1 : Nat) : Int) = (d : Int) + 1 := by omega
    have hpl : (px (prtEs (l.take i) (d + 1))).length = (prtEs (l.take i) (d + 1)).length := px_len _
    have key := p_parts1 a (d + 1) y c N1 own H1 (fun k => J ((px (prtEs (l.take i) (d + 1))).length + k)) Kx (by omega) oc (by rw [show (px (prtEs (l.take i) (d + 1))).length + 0 = (prtEs (l.take i) (d + 1)).length by omega]; exact hJ) (hy.part hpx (by omega))
    rw [hac, hcast] at key
    refine key.mono ?_
    rintro r H4 N4 ⟨K, s1, s2, s3, ⟨rfl, s4⟩ | ⟨rfl, s4⟩⟩
    · simp
      refine ⟨K, s1, s2, s3, ?_⟩
      have h1 := take_prt1 ha (d + 1)
      simp only [hpl] at s4
      rw [show (prtEs (List.take (i + 1) l) (d + 1)).length = (prtEs (List.take i l) (d + 1)).length + cntE a by omega]
      exact s4
    · simp
      exact ⟨K, s1, s2, s3, s4⟩
  · rintro r H4 N4 ⟨K, s1, s2, s3, hR⟩
    have hfl : ∀ {M : AHeap → Prop}, Sep own M K → Sep own M H4 := fun {M} h => Sep.flat ⟨K, s1, s2, s3, h⟩
    rcases hR with ⟨rfl, h4⟩ | ⟨rfl, h4⟩
    · refine (hfl h4).mono fun K2 h5 => .inl ⟨rfl, ?_⟩
      rw [exprCells_len, List.take_length, prtEs_len] at h5
      exact h5
    · exact (hfl h4).mono fun K2 h5 => .inr ⟨rfl, h5⟩

/-- What an iterator has of its own. -/
def partsOwn (N : Nat) (v : AV) (d : Nat) : AHeap := ((noHeap.set N (.blk [v])).set (N + 1) (.blk [i64 (d : Nat)])).set (N + 2) (exprBox (N + 2))
theorem p_parts (k : SK) (l : List StmtV) (d : Nat) (H : AHeap) (N : Nat) : ACall Tryd.prog 32 [.sl k 8 (stmtCells l), i64 (d : Nat)] H N (fun r H' N' => N' = N + 3 ∧ r = .fn (.func 58) [] [.mp N 0, .mp (N + 1) 0, .mp (N + 2) 0] ∧
    H' = ((H.set N (.blk [.sl k 8 (stmtCells l)])).set (N + 1) (.blk [i64 (d : Nat)])).set (N + 2) (exprBox (N + 2))) := by
  refine acallF mixed c_tree_parts (by simp) fun hF => ?_
  simp [a_tree_parts, exprBox]

theorem take_prtS {l : List StmtV} {i : Nat} {s : StmtV} (h : l[i]? = some s) (d : Nat) : prtSs l d = prtSs (l.take i) d ++ (prtS s d ++ prtSs (l.drop (i + 1)) d) := by
  have hlt := (List.getElem?_eq_some_iff.1 h).1
  have he := (List.getElem?_eq_some_iff.1 h).2
  have hl : l = l.take i ++ (s :: l.drop (i + 1)) := by
    rw [← he, ← List.drop_eq_getElem_cons hlt, List.take_append_drop]
  have h2 : prtSs l d = prtSs (l.take i ++ (s :: l.drop (i + 1))) d := by rw [← hl]
  rw [h2, prtSs_app, prtSs]
theorem take_prtS1 {l : List StmtV} {i : Nat} {s : StmtV} (h : l[i]? = some s) (d : Nat) : (prtSs (l.take (i + 1)) d).length = (prtSs (l.take i) d).length + cntS s := by
  have hlt := (List.getElem?_eq_some_iff.1 h).1
  have he := (List.getElem?_eq_some_iff.1 h).2
  rw [take_next hlt, prtSs_app, he, prtSs, List.length_append, List.length_append, prtS_len]
  simp [prtSs]

section
variable {A : Nat → AV} {H : AHeap} {N : Nat} {fs : List Fr} {Q : Post}
/-- The iterator over the statements within one: it is told that the iterator over any of these does as it should. -/
theorem parts_kids {c : ACode} (hc : .loop a_tree_parts_2b1 = c) {own : AHeap} {J : Nat → AHeap → Prop} {Kx : AHeap → Prop} {b M y d N0 : Nat} {kb kl : SK} {body els : List StmtV} (hd : d + 1 + (stmtSz body + stmtSz els) ≤ 1000000000)
    (ih : ∀ (k : SK) (l : List StmtV) (N : Nat), (l = body ∨ l = els) → SeqF Tryd.prog 58 [.mp N 0, .mp (N + 1) 0, .mp (N + 2) 0] (partsOwn N (.sl k 8 (stmtCells l)) (d + 1)) (px (prtSs l (d + 1))))
    (ob : own b = some (.blk [i64 (d : Nat)])) (om : own M = some (.blk [.yl y])) (h2 : A 2 = .mp b 0) (h4 : A 4 = .mp M 0) (h31 : A 31 = .sl .exact 1 [[.sl kb 8 (stmtCells body)], [.sl kl 8 (stmtCells els)]]) (h32 : A 32 = i64 2) (h33 : A 33 = i64 0)
    (hF : Fresh H N) (hN0 : N0 ≤ N) (hs : Sep own (J 0) H) (hy : YldC Tryd.prog y (px (prtSs body (d + 1) ++ prtSs els (d + 1))) N0 J Kx)
    (hk : ∀ A' H' N', (∀ t ∈ [1, 2, 3, 4, 10, 11, 12], A' t = A t) → Fresh H' N' → N ≤ N' → Sep own (J (cntSs body + cntSs els)) H' → onward Tryd.prog fs Q .normal ⟨A', H', N'⟩)
    (hr : ∀ A' H' N', N ≤ N' → Sep own Kx H' → onward Tryd.prog fs Q .ret ⟨A', H', N'⟩) : run Tryd.prog c (.blk 2 :: fs) Q ⟨A, H, N⟩ := by
  subst hc
  let part : Nat → List Nat := fun j => if j = 0 then [] else if j = 1 then prtSs body (d + 1) else prtSs body (d + 1) ++ prtSs els (d + 1)
  refine run_loop (fun m s => ∃ j : Nat, j ≤ 2 ∧ m = 2 - j ∧ (∀ t ∈ [1, 2, 3, 4, 10, 11, 12, 31, 32], s.A t = A t) ∧ s.A 33 = i64 j ∧ N ≤ s.N ∧ Fresh s.H s.N ∧ Sep own (J (part j).length) s.H) 2 ?_ ?_
  · exact ⟨0, by omega, by omega, fun t _ => rfl, h33, Nat.le_refl _, hF, hs⟩
  · rintro m A1 H1 N1 ⟨j, hj, rfl, hA, e33, hN1, hF1, hS1⟩
    simp only at hA e33 hN1 hF1 hS1
    have e2 := (hA 2 (by simp)).trans h2
    have e4 := (hA 4 (by simp)).trans h4
    have e31 := (hA 31 (by simp)).trans h31
    have e32 := (hA 32 (by simp)).trans h32
    have hwj : IntKind.i64.wrap ((j : Int) + 1) = ((j + 1 : Nat) : Int) := by rw [wrap_i64 (by omega) (by omega)]; rfl
    have hwd : IntKind.i64.wrap ((d : Int) + 1) = ((d + 1 : Nat) : Int) := by rw [wrap_i64 (by omega) (by omega)]; rfl
    by_cases hjl : j < 2
    · have n1 : (j : Int) < 2 := by omega
      obtain ⟨k, l, hl, hq, hsplit⟩ : ∃ (k : SK) (l : List StmtV), (l = body ∨ l = els) ∧ aindex 1 (.sl .exact 1 [[.sl kb 8 (stmtCells body)], [.sl kl 8 (stmtCells els)]]) (i64 (j : Nat)) = some (.ip [.sl k 8 (stmtCells l)] 0) ∧
          (∃ r, prtSs body (d + 1) ++ prtSs els (d + 1) = part j ++ (prtSs l (d + 1) ++ r)) ∧ part (j + 1) = part j ++ prtSs l (d + 1) := by
        have : j = 0 ∨ j = 1 := by omega
        rcases this with rfl | rfl
        · exact ⟨kb, body, .inl rfl, rfl, ⟨prtSs els (d + 1), by simp [part]⟩, by simp [part]⟩
        · exact ⟨kl, els, .inr rfl, rfl, ⟨[], by simp [part]⟩, by simp [part]⟩
      obtain ⟨⟨r, hr1⟩, hnext⟩ := hsplit
      have q1 := hS1.at_ ob
      simp [a_tree_parts_2b1, e2, e4, e31, e32, e33, n1, hq, q1, hwd]
      have hcast : ((d + 1 : Nat) : Int) = (d : Int) + 1 := by omega
      have hpt := p_parts k l (d + 1) H1 N1
      rw [hcast] at hpt
      refine hpt.monoF ?_
      rintro r2 H2 N2 ⟨rfl, rfl, rfl⟩ hF2 _
      simp
      have hown : ∀ i o, partsOwn N1 (.sl k 8 (stmtCells l)) (d + 1) i = some o → N1 ≤ i := fun i o h => by
        simp only [partsOwn, AHeap.set] at h
        by_cases x3 : i = N1 + 2
        · omega
        · rw [if_neg x3] at h
          by_cases x2 : i = N1 + 1
          · omega
          · rw [if_neg x2] at h
            by_cases x1 : i = N1
            · omega
            · rw [if_neg x1] at h; cases h
      refine range_seqF (ih k l N1 hl) H1 (fun i => Sep own (J ((part j).length + i))) (fun x G => x = .ret ∧ Sep own Kx G) (fun x hx => ?_) hF2 ?_ ?_ ?_ hS1 ?_ ?_ ?_
      · simp only [px, List.mem_map] at hx
        obtain ⟨n, _, rfl⟩ := hx
        rfl
      · intro i o hi
        have := hF1.lt hi
        simp only [AHeap.set]
        rw [if_neg (by omega), if_neg (by omega), if_neg (by omega)]
        exact hi
      · intro i o hi
        simp only [partsOwn, AHeap.set] at hi ⊢
        rw [hcast] at hi
        split at hi
        · rename_i x3; rw [if_pos x3]; exact hi
        · rename_i x3
          rw [if_neg x3]
          split at hi
          · rename_i x2; rw [if_pos x2]; exact hi
          · rename_i x2
            rw [if_neg x2]
            split at hi
            · rename_i x1; rw [if_pos x1]; exact hi
            · cases hi
      · intro i o hi
        have := hF1.lt hi
        cases hx : partsOwn N1 (.sl k 8 (stmtCells l)) (d + 1) i with
        | none => rfl
        | some o' => have := hown i o' hx; omega
      · intro o ob i x G N3 hx hN3 hFG hGN hJ
        have om2 := hJ.at_ om
        obtain ⟨n, hn, rfl⟩ : ∃ n, (prtSs l (d + 1))[i]? = some n ∧ x = [i64 (n : Nat)] := by
          simp only [px, List.getElem?_map, Option.map_eq_some_iff] at hx
          obtain ⟨n, h1, h2⟩ := hx
          exact ⟨n, h1, h2.symm⟩
        have hne : M ≠ N1 + 3 := fun h => by rw [h, hGN] at om2; cases om2
        have hput := hJ.put hGN ob
        have hno := hJ.noOwn hGN
        have hpl : (px (part j)).length = (part j).length := px_len _
        have hyp := hy.part (a := px (part j)) (b := px (prtSs l (d + 1))) (c := px r) (N' := N3) (by rw [hr1]; simp [px]) (by omega)
        simp [e4, om2, hne]
        refine (YCall.sep hput fun K hK => hyp i [i64 (n : Nat)] K N3 (by simp [px, hn]) (Nat.le_refl _) (by simp only [hpl]; exact hK)).mono ?_
        rintro r5 H5 N5 ⟨⟨K, s1, s2, s3, ⟨rfl, s4⟩ | ⟨rfl, s4⟩⟩, hF5, hN5⟩
        · have hS5 : Sep (own.set (N1 + 3) ob) (J ((part j).length + (i + 1))) H5 := ⟨K, s1, s2, s3, by simp only [hpl] at s4; exact s4⟩
          have h5 := hS5.at_ (show (own.set (N1 + 3) ob) (N1 + 3) = some ob by simp [AHeap.set])
          simp [h5]
          exact hS5.del hno
        · have hS5 : Sep (own.set (N1 + 3) ob) Kx H5 := ⟨K, s1, s2, s3, s4⟩
          have h5 := hS5.at_ (show (own.set (N1 + 3) ob) (N1 + 3) = some ob by simp [AHeap.set])
          simp [h5]
          exact hS5.del hno
      · intro K2 H2 N2 hN2 hF2 hle hJ2
        have hS2 : Sep own (J (part (j + 1)).length) H2 := by
          rw [hnext, List.length_append]
          rw [px_len] at hJ2
          obtain ⟨K, s1, s2, s3, s4⟩ := hJ2
          exact ⟨K, s1.trans hle, s2.trans hle, s3, s4⟩
        simp [e33, hwj]
        refine ⟨2 - (j + 1), by omega, j + 1, by omega, rfl, ?_, by simp, by omega, hF2, hS2⟩
        simp [hA]
      · intro x K2 H2 N2 hx hN2 hF2 hle hh
        obtain ⟨rfl, K, s1, s2, s3, s4⟩ := hh
        simp
        exact hr _ _ _ (by omega) ⟨K, s1.trans hle, s2.trans hle, s3, s4⟩
    · have n1 : ¬ (j : Int) < 2 := by omega
      have hj2 : j = 2 := by omega
      subst hj2
      simp [a_tree_parts_2b1, e32, e33]
      refine hk _ _ _ (fun t ht => ?_) hF1 hN1 ?_
      · simp only [List.mem_cons, List.not_mem_nil, or_false] at ht
        rcases ht with rfl | rfl | rfl | rfl | rfl | rfl | rfl <;> simp [hA]
      · have : (part 2).length = cntSs body + cntSs els := by simp [part, prtSs_len]
        rw [← this]; exact hS1
end
end Go.Proofs.YtebopfpgicamiaaDoor
