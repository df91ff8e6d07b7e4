/- tree: how deep and how large a program is, and which programs may be, by the program. -/
import Derived.Test.YtebopfpgicamiaaDoorW9
namespace Go.Proofs.YtebopfpgicamiaaDoor
set_option linter.unusedSimpArgs false
set_option linter.unusedVariables false
open Go Go.Fw
/-- What a fresh iterator has of its own lies in the heap, apart from what was there. -/
theorem partsOwn_le {H : AHeap} {N : Nat} (v : AV) (d : Nat) : (partsOwn N v d).le (((H.set N (.blk [v])).set (N + 1) (.blk [i64 (d : Nat)])).set (N + 2) (exprBox (N + 2))) := fun i o hi => by
  simp only [partsOwn, AHeap.set] at hi ⊢
  split at hi
  · rename_i x3; rw [if_pos x3]; exact hi
  · rename_i x3
    rw [if_neg x3]
    split at hi
    · rename_i x2; rw [if_pos x2]; exact hi
    · rename_i x2
      rw [if_neg x2]
      split at hi
      · rename_i x1; rw [if_pos x1]; exact hi
      · cases hi
theorem partsOwn_dis {H : AHeap} {N : Nat} (hF : Fresh H N) (v : AV) (d : Nat) : Dis H (partsOwn N v d) := fun i o hi => by
  have := hF.lt hi
  simp only [partsOwn, AHeap.set]
  rw [if_neg (by omega), if_neg (by omega), if_neg (by omega)]
  rfl
theorem le_parts {H : AHeap} {N : Nat} (hF : Fresh H N) (a b c : AObj) : H.le (((H.set N a).set (N + 1) b).set (N + 2) c) := fun i o hi => by
  have := hF.lt hi
  simp only [AHeap.set]
  rw [if_neg (by omega), if_neg (by omega), if_neg (by omega)]
  exact hi
theorem take_mx {l : List Nat} {i : Nat} {n : Nat} (h : l[i]? = some n) : mxL (l.take (i + 1)) = max (mxL (l.take i)) n := by
  have hlt := (List.getElem?_eq_some_iff.1 h).1
  rw [take_next hlt, mxL_app, (List.getElem?_eq_some_iff.1 h).2]
  simp [mxL]
theorem mxL_mem {l : List Nat} {n : Nat} (h : n ∈ l) : n ≤ mxL l := by
  induction l with
  | nil => simp at h
  | cons x l ih =>
    rw [mxL_cons]
    rcases List.mem_cons.1 h with rfl | h
    · omega
    · have := ih h; omega
theorem depP_take {l : List DeclV} {i : Nat} {d : DeclV} (h : l[i]? = some d) : depP (l.take (i + 1)) = max (depP (l.take i)) (depSs d.body) := by
  have hlt := (List.getElem?_eq_some_iff.1 h).1
  rw [take_next hlt, depP_app, (List.getElem?_eq_some_iff.1 h).2]
  simp [depP]
theorem cntP_take {l : List DeclV} {i : Nat} {d : DeclV} (h : l[i]? = some d) : cntP (l.take (i + 1)) = cntP (l.take i) + (1 + cntSs d.body) := by
  have hlt := (List.getElem?_eq_some_iff.1 h).1
  rw [take_next hlt, cntP_app, (List.getElem?_eq_some_iff.1 h).2]
  simp [cntP]
theorem take_declSz (l : List DeclV) (i : Nat) : declSz (l.take i) ≤ declSz l := by
  have : declSz l = declSz (l.take i) + declSz (l.drop i) := by rw [← declSz_app, List.take_append_drop]
  omega

theorem p_Depth (k : SK) (l : List DeclV) (hsz : declSz l ≤ 100000000) : PCall Tryd.prog 13 [.sl k 6 (declCells l)] (i64 (depP l)) := by
  refine PCall.of fun N => acallF mixed c_tree_Depth (by simp) fun hF => ?_
  have hll := declSz_len l
  simp [a_tree_Depth]
  refine run_loop (fun m s => ∃ j : Nat, j ≤ l.length ∧ m = l.length - j ∧ s.A 3 = .mp N 0 ∧ s.A 7 = .sl k 6 (declCells l) ∧ s.A 8 = i64 l.length ∧ s.A 9 = i64 j ∧ Fresh s.H s.N ∧ s.H N = some (.blk [i64 (depP (l.take j))])) l.length ?_ ?_
  · exact ⟨0, by omega, by omega, by simp, by simp, by simp [declCells_len], by simp, hF.set _, by simp [AHeap.set, depP]⟩
  · rintro m A1 H1 N1 ⟨j, hj, rfl, e3, e7, e8, e9, hF1, hm⟩
    simp only at e3 e7 e8 e9 hF1 hm
    have hwj : IntKind.i64.wrap ((j : Int) + 1) = ((j + 1 : Nat) : Int) := by rw [wrap_i64 (by omega) (by omega)]; rfl
    by_cases hjl : j < l.length
    · have n1 : (j : Int) < l.length := by omega
      obtain ⟨d, hd⟩ : ∃ d, l[j]? = some d := ⟨l[j], List.getElem?_eq_getElem hjl⟩
      have hdm := declSz_mem (List.mem_of_getElem? hd)
      have hds : d.sz = 1 + d.name.size + strSz d.params + stmtSz d.body := rfl
      have hq : aindex 6 (.sl k 6 (declCells l)) (i64 (j : Nat)) = some (.ip d.cells 0) := aindex_sl (by omega) (by simpa using declCells_at hd)
      have hce : d.cells = [u8 d.kind, str d.name, i64 d.n, .sl d.kp 1 (strCells d.params), .sl d.kb 8 (stmtCells d.body), i64 d.pos] := rfl
      have hNN : N < N1 := hF1.lt hm
      rw [hce] at hq
      simp [a_tree_Depthb1, e3, e7, e8, e9, n1, hq, splice]
      have hm2 : (H1.set N1 (.blk [u8 d.kind, str d.name, i64 d.n, .sl d.kp 1 (strCells d.params), .sl d.kb 8 (stmtCells d.body), i64 d.pos])) N = some (.blk [i64 (depP (l.take j))]) := by simp only [AHeap.set]; rw [if_neg (by omega)]; exact hm
      have hF2 := hF1.set (.blk [u8 d.kind, str d.name, i64 d.n, .sl d.kp 1 (strCells d.params), .sl d.kb 8 (stmtCells d.body), i64 d.pos])
      generalize H1.set N1 (.blk [u8 d.kind, str d.name, i64 d.n, .sl d.kp 1 (strCells d.params), .sl d.kb 8 (stmtCells d.body), i64 d.pos]) = H2 at hm2 hF2 ⊢
      refine (p_parts d.kb d.body 1 H2 (N1 + 1)).monoF ?_
      rintro r H3 N3 ⟨rfl, rfl, rfl⟩ hF3 _
      simp
      have hdp := depP_take hd
      refine range_seqF (parts_seq _ d.body rfl d.kb (N1 + 1) 1 (by omega)) H2 (fun i G => G N = some (.blk [i64 (max (depP (l.take j)) (mxL ((prtSs d.body 1).take i)) : Nat)])) (fun _ _ => False) (fun x hx => ?_) hF3 (le_parts hF2 _ _ _) (partsOwn_le _ _) (partsOwn_dis hF2 _ _) ?_ ?_ ?_ (fun _ _ _ _ _ _ _ _ h => h.elim)
      · simp only [px, List.mem_map] at hx
        obtain ⟨n, _, rfl⟩ := hx
        rfl
      · simpa [mxL] using hm2
      · intro o ob i x G N4 hx hN4 hFG hGN hJ
        obtain ⟨n, hn, rfl⟩ : ∃ n, (prtSs d.body 1)[i]? = some n ∧ x = [i64 (n : Nat)] := by
          simp only [px, List.getElem?_map, Option.map_eq_some_iff] at hx
          obtain ⟨n, h1, h2⟩ := hx
          exact ⟨n, h1, h2.symm⟩
        have htm := take_mx hn
        have hne : N ≠ N1 + 1 + 3 := by omega
        have hmx : max (((max (depP (l.take j)) (mxL ((prtSs d.body 1).take i)) : Nat) : Int)) (n : Int) = ((max (depP (l.take j)) (mxL ((prtSs d.body 1).take (i + 1))) : Nat) : Int) := by rw [htm]; omega
        simp [e3, hJ, hne, hmx, splice, AHeap.del]
        refine ⟨fun h => by omega, ?_⟩
        rw [htm]
        split <;> omega
      · intro K2 H4 N4 hN4 hF4 hle hJ
        have hm4 := hle _ _ hJ
        rw [px_len, List.take_length, mxSs, ← hdp] at hm4
        simp [e3, e7, e8, e9, hwj]
        exact ⟨l.length - (j + 1), by omega, j + 1, by omega, rfl, rfl, hF4, hm4⟩
    · have n1 : ¬ (j : Int) < l.length := by omega
      have hje : j = l.length := by omega
      subst hje
      rw [List.take_length] at hm
      simp [a_tree_Depthb1, e3, e8, e9, hm]
      exact .free rfl

/-- How much is in the bodies of the first ones. -/
def cntB (l : List DeclV) (j : Nat) : Nat := cntP (l.take j) - j
theorem cntP_ge : ∀ l : List DeclV, l.length ≤ cntP l
  | [] => by simp [cntP]
  | d :: l => by rw [cntP, List.length_cons]; have := cntP_ge l; omega
theorem cntB_take {l : List DeclV} {j : Nat} {d : DeclV} (h : l[j]? = some d) : cntB l (j + 1) = cntB l j + cntSs d.body := by
  have h1 := cntP_take h
  have hlt := (List.getElem?_eq_some_iff.1 h).1
  have h2 := cntP_ge (l.take j)
  rw [List.length_take] at h2
  unfold cntB
  omega
theorem cntB_all (l : List DeclV) : l.length + cntB l l.length = cntP l := by
  have := cntP_ge l
  unfold cntB
  rw [List.take_length]
  omega
theorem cntB_le (l : List DeclV) (j : Nat) : cntB l j ≤ declSz l := by
  have h1 := cntP_le (l.take j)
  have h2 := take_declSz l j
  unfold cntB
  omega
theorem p_Size (k : SK) (l : List DeclV) (hsz : declSz l ≤ 100000000) : PCall Tryd.prog 15 [.sl k 6 (declCells l)] (i64 (cntP l)) := by
  refine PCall.of fun N => acallF mixed c_tree_Size (by simp) fun hF => ?_
  have hll := declSz_len l
  simp [a_tree_Size]
  refine run_loop (fun m s => ∃ j : Nat, j ≤ l.length ∧ m = l.length - j ∧ s.A 3 = .mp N 0 ∧ s.A 8 = .sl k 6 (declCells l) ∧ s.A 9 = i64 l.length ∧ s.A 10 = i64 j ∧ Fresh s.H s.N ∧ s.H N = some (.blk [i64 (l.length + cntB l j : Nat)])) l.length ?_ ?_
  · exact ⟨0, by omega, by omega, by simp, by simp, by simp [declCells_len], by simp, hF.set _, by simp [AHeap.set, cntB, declCells_len, cntP]⟩
  · rintro m A1 H1 N1 ⟨j, hj, rfl, e3, e8, e9, e10, hF1, hm⟩
    simp only at e3 e8 e9 e10 hF1 hm
    have hwj : IntKind.i64.wrap ((j : Int) + 1) = ((j + 1 : Nat) : Int) := by rw [wrap_i64 (by omega) (by omega)]; rfl
    by_cases hjl : j < l.length
    · have n1 : (j : Int) < l.length := by omega
      obtain ⟨d, hd⟩ : ∃ d, l[j]? = some d := ⟨l[j], List.getElem?_eq_getElem hjl⟩
      have hdm := declSz_mem (List.mem_of_getElem? hd)
      have hds : d.sz = 1 + d.name.size + strSz d.params + stmtSz d.body := rfl
      have hq : aindex 6 (.sl k 6 (declCells l)) (i64 (j : Nat)) = some (.ip d.cells 0) := aindex_sl (by omega) (by simpa using declCells_at hd)
      have hce : d.cells = [u8 d.kind, str d.name, i64 d.n, .sl d.kp 1 (strCells d.params), .sl d.kb 8 (stmtCells d.body), i64 d.pos] := rfl
      have hNN : N < N1 := hF1.lt hm
      rw [hce] at hq
      simp [a_tree_Sizeb1, e3, e8, e9, e10, n1, hq, splice]
      have hm2 : (H1.set N1 (.blk [u8 d.kind, str d.name, i64 d.n, .sl d.kp 1 (strCells d.params), .sl d.kb 8 (stmtCells d.body), i64 d.pos])) N = some (.blk [i64 (l.length + cntB l j : Nat)]) := by simp only [AHeap.set]; rw [if_neg (by omega)]; exact hm
      have hF2 := hF1.set (.blk [u8 d.kind, str d.name, i64 d.n, .sl d.kp 1 (strCells d.params), .sl d.kb 8 (stmtCells d.body), i64 d.pos])
      generalize H1.set N1 (.blk [u8 d.kind, str d.name, i64 d.n, .sl d.kp 1 (strCells d.params), .sl d.kb 8 (stmtCells d.body), i64 d.pos]) = H2 at hm2 hF2 ⊢
      refine (p_parts d.kb d.body 1 H2 (N1 + 1)).monoF ?_
      rintro r H3 N3 ⟨rfl, rfl, rfl⟩ hF3 _
      simp
      have hdp := cntB_take hd
      have hcl := cntSs_le d.body
      have hcb := cntB_le l j
      refine range_seqF (parts_seq _ d.body rfl d.kb (N1 + 1) 1 (by omega)) H2 (fun i G => G N = some (.blk [i64 (l.length + cntB l j + i : Nat)])) (fun _ _ => False) (fun x hx => ?_) hF3 (le_parts hF2 _ _ _) (partsOwn_le _ _) (partsOwn_dis hF2 _ _) ?_ ?_ ?_ (fun _ _ _ _ _ _ _ _ h => h.elim)
      · simp only [px, List.mem_map] at hx
        obtain ⟨n, _, rfl⟩ := hx
        rfl
      · simpa using hm2
      · intro o ob i x G N4 hx hN4 hFG hGN hJ
        obtain ⟨n, hn, rfl⟩ : ∃ n, (prtSs d.body 1)[i]? = some n ∧ x = [i64 (n : Nat)] := by
          simp only [px, List.getElem?_map, Option.map_eq_some_iff] at hx
          obtain ⟨n, h1, h2⟩ := hx
          exact ⟨n, h1, h2.symm⟩
        have hne : N ≠ N1 + 1 + 3 := by omega
        have hil : i < (prtSs d.body 1).length := (List.getElem?_eq_some_iff.1 hn).1
        rw [prtSs_len] at hil
        have hmx : IntKind.i64.wrap (((l.length + cntB l j + i : Nat) : Int) + 1) = ((l.length + cntB l j + (i + 1) : Nat) : Int) := by rw [wrap_i64 (by omega) (by omega)]; omega
        simp [e3, hJ, hne, hmx, splice, AHeap.del, -Int.natCast_add]
        exact fun h => by omega
      · intro K2 H4 N4 hN4 hF4 hle hJ
        have hm4 := hle _ _ hJ
        rw [px_len, prtSs_len, show l.length + cntB l j + cntSs d.body = l.length + cntB l (j + 1) by omega] at hm4
        simp [e3, e8, e9, e10, hwj]
        exact ⟨l.length - (j + 1), by omega, j + 1, by omega, rfl, rfl, hF4, hm4⟩
    · have n1 : ¬ (j : Int) < l.length := by omega
      have hje : j = l.length := by omega
      subst hje
      rw [cntB_all] at hm
      simp [a_tree_Sizeb1, e3, e8, e9, e10, hm]
      exact .free rfl

theorem p_May {k : SK} {l : List DeclV} (hok : ∀ d ∈ l, d.Ok) (hsz : declSz l ≤ 100000000) : PCall Tryd.prog 11 [.sl k 6 (declCells l)] (bl (mayP l)) := by
  have hll := declSz_len l
  have hall : PCall Tryd.prog 29 [.sl k 6 (declCells l), .fn (.func 30) [] []] (bl (l.all declB)) :=
    p_allP_Decl (by omega) fun d hd => p_decl d (hok d hd) (by have := declSz_mem hd; omega)
  have hdep := p_Depth k l hsz
  refine PCall.of fun N => acall mixed c_tree_May (by simp) ?_
  obtain ⟨B, hB⟩ : ∃ B, mayP l = B := ⟨_, rfl⟩
  rw [hB]
  unfold mayP at hB
  by_cases c1 : l.length ≤ 256
  · have c1' : (l.length : Int) ≤ 256 := by omega
    rw [decide_eq_true c1] at hB
    simp [a_tree_May, declCells_len, c1']
    refine hall.acall ?_
    cases h : l.all declB with
    | false =>
      rw [h] at hB
      obtain rfl : B = false := by rw [← hB]; rfl
      simp
      exact .free rfl
    | true =>
      rw [h] at hB
      simp
      refine hdep.acall ?_
      have : decide ((depP l : Int) ≤ 60) = B := by
        rw [← hB]
        by_cases c : depP l ≤ 60
        · have : (depP l : Int) ≤ 60 := by omega
          simp [c, this]
        · have : ¬ (depP l : Int) ≤ 60 := by omega
          simp [c, this]
      simp [this]
      exact .free rfl
  · have c1' : ¬ (l.length : Int) ≤ 256 := by omega
    rw [decide_eq_false c1] at hB
    obtain rfl : B = false := by rw [← hB]; rfl
    simp [a_tree_May, declCells_len, c1']
    exact .free rfl
end Go.Proofs.YtebopfpgicamiaaDoor
