/- tree: how deep each part of an expression stands, handed out one after another. -/
import Derived.Test.YtebopfpgicamiaaDoorW6
namespace Go.Proofs.YtebopfpgicamiaaDoor
set_option linter.unusedSimpArgs false
set_option linter.unusedVariables false
open Go Go.Fw
def px (l : List Nat) : List (List AV) := l.map fun n => [i64 (n : Nat)]
theorem px_len (l : List Nat) : (px l).length = l.length := by simp [px]
theorem px_app (a b : List Nat) : px (a ++ b) = px a ++ px b := by simp [px]
/-- The box that holds how an expression is gone through. -/
def exprBox (c : Nat) : AObj := .blk [.fn (.func 56) [] [.mp c 0]]

theorem take_prt {l : List ExprV} {i : Nat} {e : ExprV} (h : l[i]? = some e) (d : Nat) : prtEs l d = prtEs (l.take i) d ++ (prtE e d ++ prtEs (l.drop (i + 1)) d) := by
  have hlt := (List.getElem?_eq_some_iff.1 h).1
  have he := (List.getElem?_eq_some_iff.1 h).2
  have hl : l = l.take i ++ (e :: l.drop (i + 1)) := by
    rw [← he, ← List.drop_eq_getElem_cons hlt, List.take_append_drop]
  have h2 : prtEs l d = prtEs (l.take i ++ (e :: l.drop (i + 1))) d := by rw [← hl]
  rw [h2, prtEs_app, prtEs]
theorem take_prt1 {l : List ExprV} {i : Nat} {e : ExprV} (h : l[i]? = some e) (d : Nat) : (prtEs (l.take (i + 1)) d).length = (prtEs (l.take i) d).length + cntE e := by
  have hlt := (List.getElem?_eq_some_iff.1 h).1
  have he := (List.getElem?_eq_some_iff.1 h).2
  rw [take_next hlt, prtEs_app, he, prtEs, List.length_append, List.length_append, prtE_len]
  simp [prtEs]

theorem p_parts1 (e : ExprV) : ∀ (d y bx N : Nat) (own H : AHeap) (J : Nat → AHeap → Prop) (Kx : AHeap → Prop), d + e.sz ≤ 1000000000 → own bx = some (exprBox bx) → Sep own (J 0) H → YldC Tryd.prog y (px (prtE e d)) N J Kx →
    ACall Tryd.prog 56 [.agg e.cells, i64 (d : Nat), .yl y, .mp bx 0] H N (fun r H' _ => Sep own (AskR (cntE e) J Kx r) H') := by
  induction e using ExprV.ind with
  | h e ih =>
    intro d y bx N own H J Kx hd hb hs hy
    rw [e.sz_eq] at hd
    have hce := e.cells_eq
    refine acallF mixed c_tree_parts_1 (by simp) fun hF => ?_
    have hbN : bx < N := hF.lt (hs.at_ hb)
    have hs2 := (hs.alloc hF (.blk [i64 (d : Nat)])).alloc (hF.set _) (.blk [.yl y])
    have F2 := (hF.set (.blk [i64 (d : Nat)])).set (.blk [.yl y])
    obtain ⟨own2, ho2⟩ : ∃ o, (own.set N (.blk [i64 (d : Nat)])).set (N + 1) (.blk [.yl y]) = o := ⟨_, rfl⟩
    rw [ho2] at hs2
    have o1 : own2 N = some (.blk [i64 (d : Nat)]) := by rw [← ho2]; simp [AHeap.set]
    have o2 : own2 (N + 1) = some (.blk [.yl y]) := by rw [← ho2]; simp [AHeap.set]
    have o3 : own2 bx = some (exprBox bx) := by rw [← ho2]; simp only [AHeap.set]; rw [if_neg (by omega), if_neg (by omega)]; exact hb
    have hle : own.le own2 := fun i o ho => by
      have : i < N := hF.lt (hs.at_ ho)
      rw [← ho2]; simp only [AHeap.set]; rw [if_neg (by omega), if_neg (by omega)]; exact ho
    rw [hce]
    simp [a_tree_parts_1]
    obtain ⟨H2, hH2⟩ : ∃ X, (H.set N (.blk [i64 (d : Nat)])).set (N + 1) (.blk [.yl y]) = X := ⟨_, rfl⟩
    rw [hH2] at hs2 F2 ⊢
    refine (YCall.sep hs2 fun K hK => hy 0 [i64 (d : Nat)] K (N + 1 + 1) (by rw [prtE_eq]; rfl) (by omega) hK).mono ?_
    rintro r H3 N3 ⟨hS3, hF3, hN3⟩
    obtain ⟨K, s1, s2, s3, ⟨rfl, s4⟩ | ⟨rfl, s4⟩⟩ := hS3
    · have hs3 : Sep own2 (J 1) H3 := ⟨K, s1, s2, s3, s4⟩
      simp
      refine (p_all_Expr (J := fun i => Sep own2 (J (1 + (prtEs (e.args.take i) (d + 1)).length))) (Kx := Sep own2 Kx) (exprCells_sz _) (by rw [exprCells_len]; have := exprSz_len e.args; omega) (fun i x H1 N1 hx hN1 hJ => ?_) (by simpa [prtEs] using hs3)).mono ?_
      · obtain ⟨a, ha, rfl⟩ : ∃ a, e.args[i]? = some a ∧ x = .agg a.cells := by
          simp [exprCells_map] at hx
          obtain ⟨a, h1, h2⟩ := hx
          exact ⟨a, h1, h2.symm⟩
        have q1 := hJ.at_ o1
        have q2 := hJ.at_ o2
        have q3 := hJ.at_ o3
        have ham := List.mem_of_getElem? ha
        have hasz := exprSz_mem ham
        have hac := a.cells_eq
        have hla : ∀ X, aload X true 5 (.ip a.cells 0) = some (.agg a.cells) := fun X => by rw [hac]; rfl
        have hcc : (AV.agg a.cells).cells = some a.cells := rfl
        have hwd : IntKind.i64.wrap ((d : Int) + 1) = ((d + 1 : Nat) : Int) := by rw [wrap_i64 (by omega) (by omega)]; rfl
        refine acallF mixed c_tree_parts_1_1 (by simp) fun hF1 => ?_
        simp only [exprBox] at q3
        simp [a_tree_parts_1_1, q1, q2, q3, hla, hwd, hac]
        have hsp := take_prt ha (d + 1)
        have hpx : px (prtE e d) = px (d :: prtEs (e.args.take i) (d + 1)) ++ (px (prtE a (d + 1)) ++ px (prtEs (e.args.drop (i + 1)) (d + 1))) := by
          rw [prtE_eq, hsp]; simp [px]
        have hcast : ((d + 1 : Nat) : Int) = (d : Int) + 1 := by omega
        have hpl : (px (d :: prtEs (e.args.take i) (d + 1))).length = 1 + (prtEs (e.args.take i) (d + 1)).length := by rw [px_len, List.length_cons]; omega
        have key := ih a ham (d + 1) y bx N1 own2 H1 (fun k => J ((px (d :: prtEs (e.args.take i) (d + 1))).length + k)) Kx (by omega) o3 (by rw [show (px (d :: prtEs (e.args.take i) (d + 1))).length + 0 = 1 + (prtEs (e.args.take i) (d + 1)).length by omega]; exact hJ) (hy.part hpx (by omega))
        rw [hac, hcast] at key
        refine key.mono ?_
        rintro r H4 N4 ⟨K, s1, s2, s3, ⟨rfl, s4⟩ | ⟨rfl, s4⟩⟩
        · simp
          refine ⟨K, s1, s2, s3, ?_⟩
          have h1 := take_prt1 ha (d + 1)
          simp only [hpl] at s4
          rw [show 1 + (prtEs (List.take (i + 1) e.args) (d + 1)).length = 1 + (prtEs (List.take i e.args) (d + 1)).length + cntE a by omega]
          exact s4
        · simp
          exact ⟨K, s1, s2, s3, s4⟩
      · rintro r H4 N4 ⟨K, s1, s2, s3, hR⟩
        simp
        have hfl : ∀ {M : AHeap → Prop}, Sep own2 M K → Sep own M H4 := fun {M} h => (Sep.flat ⟨K, s1, s2, s3, h⟩).less hle
        rcases hR with ⟨rfl, h4⟩ | ⟨rfl, h4⟩
        · refine (hfl h4).mono fun K2 h5 => .inl ⟨rfl, ?_⟩
          rw [exprCells_len, List.take_length, prtEs_len] at h5
          rw [cntE_eq]; exact h5
        · exact (hfl h4).mono fun K2 h5 => .inr ⟨rfl, h5⟩
    · simp
      exact ⟨K, s1, hle.trans s2, s3.sub (AHeap.le.refl _) hle, .inr ⟨rfl, s4⟩⟩
end Go.Proofs.YtebopfpgicamiaaDoor
