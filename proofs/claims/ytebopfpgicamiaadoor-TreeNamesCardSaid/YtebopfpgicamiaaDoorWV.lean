/- tree: the examples: names and expressions that may not be. -/
import Derived.Test.YtebopfpgicamiaaDoorWU
import Derived.Test.YtebopfpgicamiaaDoorWP
import Derived.Test.YtebopfpgicamiaaDoorKD
namespace Go.Proofs.YtebopfpgicamiaaDoor
set_option linter.unusedSimpArgs false
set_option linter.unusedVariables false
open Go Go.Fw
def oneC : List AV := [.lit (.int .u8 1), .lit (.string ⟨#[]⟩), .lit (.int .i64 1), .sl .nil 0 [], .lit (.int .i64 0)]
/-- A name of so many letters, but one. -/
def nm : Nat → ByteArray
  | 0 => ⟨#[110]⟩
  | n + 1 => nm n ++ ⟨#[48]⟩
theorem nm_size (n : Nat) : (nm n).size = n + 1 := by
  induction n with
  | zero => rfl
  | succ n ih => rw [nm, ByteArray.size_append, ih]; rfl
def badNames : List ByteArray := resWords ++ [noStr, ⟨#[48, 97]⟩, ⟨#[97, 45, 98]⟩, nm 31 ++ ⟨#[48]⟩]
theorem bad_names : badNames.all (fun s => !nameB s && decide (s.size ≤ 100)) = true := by kernel_rfl
theorem good_name : nameB (nm 31) = true := by kernel_rfl
theorem name_size : (nm 31).size ≤ 100 := of_decide_eq_true (by kernel_rfl)
def lA : ByteArray := ⟨#[97]⟩
def badExprs : List ExprV := [.mk 0 noStr 0 .nil [] 0, .mk 1 noStr (-1) .nil [] 0, .mk 2 noStr 2 .nil [] 0, .mk 3 noStr 0 .nil [] 0, .mk 5 noStr 0 .exact [exOne, exOne] 0, .mk 7 noStr 0 .exact [exOne] 0, .mk 1 lA 0 .nil [] 0, .mk 4 lA 0 .nil [] 0, .mk 18 noStr 0 .exact [exOne, exOne] 0, .mk 6 noStr 1 .exact [exOne] 0]
def rowsE : List (List AV) := normLL (exprCells badExprs)
theorem bad_exprs : badExprs.all (fun e => !mayE e && decide (e.sz ≤ 100)) = true := by kernel_rfl
theorem rowsE_norm : normLL rowsE = normLL (exprCells badExprs) := by kernel_rfl
theorem rowsE_len : rowsE.all (fun c => decide (c.length = 5)) = true := by kernel_rfl
theorem exOne_ok : exOne.Ok := by simp [exOne, ExprV.Ok, exprsOk]
theorem bad_ok : ∀ e ∈ badExprs, e.Ok := (exprsOk_iff _).1 (by simp [badExprs, exprsOk, ExprV.Ok, exOne])

section
variable {A : Nat → AV} {H : AHeap} {N : Nat} {fs : List Fr} {Q : Post}
theorem tn_name (h2 : A 2 = str (nm 0)) (hk : ∀ A', A' 2 = str (nm 31) → A' 1 = A 1 → onward Tryd.prog fs Q .normal ⟨A', H, N⟩) :
    run Tryd.prog (.seq (.ops [⟨some 3, .val (.val (.lit (.int .i64 0))), none⟩]) (.block 0 (.loop a_bobbinlaw02_TreeNamesb6))) fs Q ⟨A, H, N⟩ := by
  simp
  refine run_loop (fun m s => ∃ i : Nat, i ≤ 31 ∧ m = 31 - i ∧ s.A 1 = A 1 ∧ s.A 2 = str (nm i) ∧ s.A 3 = i64 i ∧ s.H = H ∧ s.N = N) 31 ?_ ?_
  · exact ⟨0, by omega, by omega, by simp, by simp [h2], by simp, rfl, rfl⟩
  · rintro m A1 H1 N1 ⟨i, hi, rfl, e1, e2, e3, rfl, rfl⟩
    simp only at e1 e2 e3
    have hw : IntKind.i64.wrap ((i : Int) + 1) = ((i + 1 : Nat) : Int) := by rw [wrap_i64 (by omega) (by omega)]; rfl
    by_cases c : i < 31
    · have c' : (i : Int) < 31 := by omega
      have hadd : sbin .add (nm i) ⟨#[48]⟩ = some (.string (nm (i + 1))) := by
        have h1 := nm_size i
        have h2 : (⟨#[48]⟩ : ByteArray).size = 1 := rfl
        simp only [sbin]
        rw [if_pos (by omega), nm]
      simp [a_bobbinlaw02_TreeNamesb6, e1, e2, e3, c', hw, hadd]
      exact ⟨31 - (i + 1), by omega, i + 1, by omega, rfl, rfl, rfl⟩
    · have c' : ¬ (i : Int) < 31 := by omega
      have : i = 31 := by omega
      subst this
      simp [a_bobbinlaw02_TreeNamesb6, e1, e2, e3]
      exact hk _ (by simp [e2]) (by simp [e1])
theorem tn_ns1 : ((opsOf a_tn_ns).bind fun os => (pureRun [] os [(2, str (nm 31))]).bind fun l => looksT l [2, 26, 27, 28]) = some [str (nm 31), .sl .exact 1 (strCells badNames), i64 19, i64 0] := by kernel_rfl
theorem tn_ns2 : ((opsOf a_tn_ns).bind fun os => (pureRun [] os [(2, str (nm 31))]).map fun l => ([1] : List Nat).all fun t => (lookT l t).isNone) = some true := by kernel_rfl
theorem tn_names {c : ACode} (hc : a_tn_ns = c) (h2 : A 2 = str (nm 31)) (hk : ∀ A', A' 1 = A 1 → A' 2 = A 2 → onward Tryd.prog fs Q .normal ⟨A', H, N⟩) :
    run Tryd.prog (.seq c (.block 2 (.loop a_bobbinlaw02_TreeNamesb5))) fs Q ⟨A, H, N⟩ := by
  simp
  have hK : Knows A [(2, str (nm 31))] := fun t v e => by
    simp only [lookT] at e
    split at e
    · rename_i he; subst he; cases e; exact h2
    · cases e
  refine run_lits (c := c) (ds := [2, 26, 27, 28]) (vs := [str (nm 31), .sl .exact 1 (strCells badNames), i64 19, i64 0]) (ts := [1]) [] [(2, str (nm 31))] hK (fun t cs e => by cases e) (by rw [← hc]; exact tn_ns1) (by rw [← hc]; exact tn_ns2) fun A' h ht => ?_
  simp only [List.map_cons, List.map_nil, List.cons.injEq, and_true] at h
  obtain ⟨g2, g26, g27, g28⟩ := h
  have g1 := ht 1 (by simp)
  have hlen : badNames.length = 19 := rfl
  have hbad := bad_names
  obtain ⟨L, hL⟩ : ∃ L, badNames = L := ⟨_, rfl⟩
  rw [hL] at g26 hlen hbad
  simp
  refine run_loop (fun m s => ∃ i : Nat, i ≤ 19 ∧ m = 19 - i ∧ s.A 1 = A 1 ∧ s.A 2 = A 2 ∧ s.A 26 = .sl .exact 1 (strCells L) ∧ s.A 27 = i64 19 ∧ s.A 28 = i64 i ∧ s.H = H ∧ s.N = N) 19 ?_ ?_
  · exact ⟨0, by omega, by omega, g1, g2.trans h2.symm, g26, g27, g28, rfl, rfl⟩
  · rintro m A1 H1 N1 ⟨i, hi, rfl, e1, e2, e26, e27, e28, rfl, rfl⟩
    simp only at e1 e2 e26 e27 e28
    have hw : IntKind.i64.wrap ((i : Int) + 1) = ((i + 1 : Nat) : Int) := by rw [wrap_i64 (by omega) (by omega)]; rfl
    by_cases c : i < 19
    · have c' : (i : Int) < 19 := by omega
      obtain ⟨s, hs⟩ : ∃ s, L[i]? = some s := ⟨L[i]'(by omega), List.getElem?_eq_getElem _⟩
      have hb := List.all_eq_true.1 hbad s (List.mem_of_getElem? hs)
      simp only [Bool.and_eq_true, Bool.not_eq_true', decide_eq_true_eq] at hb
      have hq : aindex 1 (.sl .exact 1 (strCells L)) (i64 (i : Nat)) = some (.ip [str s] 0) := aindex_sl (by omega) (by simpa using strCells_get hs)
      have hN : PCall Tryd.prog 23 [str s] (bl (nameB s)) := p_Name s (by omega)
      rw [hb.1] at hN
      simp [a_bobbinlaw02_TreeNamesb5, e1, e2, e26, e27, e28, c', hq]
      refine hN.acall ?_
      simp [e1, e2, e26, e27, e28, hw]
      exact ⟨19 - (i + 1), by omega, i + 1, by omega, rfl, rfl⟩
    · have c' : ¬ (i : Int) < 19 := by omega
      simp [a_bobbinlaw02_TreeNamesb5, e27, e28, c']
      exact hk _ (by simp [e1]) (by simp [e2])
theorem tn_es1 : ((opsOf a_tn_es).bind fun os => (pureRun [(1, oneC)] os []).bind fun l => looksT l [55, 56, 57]) = some [.sl .exact 5 rowsE, i64 10, i64 0] := by kernel_rfl
theorem tn_es2 : ((opsOf a_tn_es).bind fun os => (pureRun [(1, oneC)] os []).map fun l => ([1, 2] : List Nat).all fun t => (lookT l t).isNone) = some true := by kernel_rfl
theorem normLL_at {a b : List (List AV)} (h : normLL a = normLL b) {i : Nat} {x : List AV} (hx : a[i]? = some x) : ∃ y, b[i]? = some y ∧ normL x = normL y := by
  have h1 : (normLL a)[i]? = (normLL b)[i]? := by rw [h]
  rw [normLL_map, normLL_map, List.getElem?_map, List.getElem?_map, hx] at h1
  cases hy : b[i]? with
  | none => rw [hy] at h1; cases h1
  | some y => rw [hy] at h1; exact ⟨y, rfl, by simpa using h1⟩
theorem tn_exprs {c : ACode} {o : Nat} (hc : a_tn_es = c) (h1 : A 1 = .mp o 0) (ho : H o = some (.blk oneC)) (hF : Fresh H N)
    (hk : ∀ A' H' N', A' 1 = A 1 → A' 2 = A 2 → (∀ j, j < N → H' j = H j) → N ≤ N' → Fresh H' N' → onward Tryd.prog fs Q .normal ⟨A', H', N'⟩) :
    run Tryd.prog (.seq c (.block 4 (.loop a_bobbinlaw02_TreeNamesb4))) fs Q ⟨A, H, N⟩ := by
  simp
  refine run_lits (c := c) (ds := [55, 56, 57]) (vs := [.sl .exact 5 rowsE, i64 10, i64 0]) (ts := [1, 2]) [(1, oneC)] [] (fun t v e => by cases e) (fun t cs e => by
    simp only [lookB] at e
    split at e
    · rename_i he; subst he; cases e; exact ⟨o, h1, ho⟩
    · cases e) (by rw [← hc]; exact tn_es1) (by rw [← hc]; exact tn_es2) fun A' h ht => ?_
  simp only [List.map_cons, List.map_nil, List.cons.injEq, and_true] at h
  obtain ⟨g55, g56, g57⟩ := h
  have g1 := ht 1 (by simp)
  have g2 := ht 2 (by simp)
  have hlen : rowsE.length = 10 := rfl
  have hnrm := rowsE_norm
  have hl5 := rowsE_len
  obtain ⟨L, hL⟩ : ∃ L, rowsE = L := ⟨_, rfl⟩
  rw [hL] at g55 hlen hnrm hl5
  simp
  refine run_loop (fun m s => ∃ i : Nat, i ≤ 10 ∧ m = 10 - i ∧ s.A 1 = A 1 ∧ s.A 2 = A 2 ∧ s.A 55 = .sl .exact 5 L ∧ s.A 56 = i64 10 ∧ s.A 57 = i64 i ∧ (∀ j, j < N → s.H j = H j) ∧ N ≤ s.N ∧ Fresh s.H s.N) 10 ?_ ?_
  · exact ⟨0, by omega, by omega, g1, g2, g55, g56, g57, fun _ _ => rfl, Nat.le_refl _, hF⟩
  · rintro m A1 H1 N1 ⟨i, hi, rfl, e1, e2, e55, e56, e57, hold, hNN, hF1⟩
    simp only at e1 e2 e55 e56 e57 hold hNN hF1
    have hw : IntKind.i64.wrap ((i : Int) + 1) = ((i + 1 : Nat) : Int) := by rw [wrap_i64 (by omega) (by omega)]; rfl
    by_cases c : i < 10
    · have c' : (i : Int) < 10 := by omega
      obtain ⟨x, hx⟩ : ∃ x, L[i]? = some x := ⟨L[i]'(by omega), List.getElem?_eq_getElem _⟩
      have hxl : x.length = 5 := of_decide_eq_true (List.all_eq_true.1 hl5 x (List.mem_of_getElem? hx))
      obtain ⟨y, hy, hxy⟩ := normLL_at hnrm hx
      rw [exprCells_map, List.getElem?_map, Option.map_eq_some_iff] at hy
      obtain ⟨e, he, rfl⟩ := hy
      have hem := List.mem_of_getElem? he
      have hb := List.all_eq_true.1 bad_exprs e hem
      simp only [Bool.and_eq_true, Bool.not_eq_true', decide_eq_true_eq] at hb
      have hq : aindex 5 (.sl .exact 5 L) (i64 (i : Nat)) = some (.ip x 0) := aindex_sl (by omega) (by simpa using hx)
      have hM := p_MayExpr e (bad_ok e hem) (by omega)
      rw [hb.1] at hM
      have hM' : PCall Tryd.prog 19 [.agg x] (bl false) := PCall.nrm hM (by show [AV.agg (normL x)] = [AV.agg (normL e.cells)]; rw [hxy])
      simp [a_bobbinlaw02_TreeNamesb4, e1, e2, e55, e56, e57, c', hq, hxl, take_len hxl, splice_full, AHeap.set]
      refine hM'.acall ?_
      simp [e1, e2, e55, e56, e57, hw]
      refine ⟨10 - (i + 1), by omega, i + 1, by omega, rfl, rfl, fun j hj => ?_, by omega, hF1.set _⟩
      rw [if_neg (by omega), hold j hj]
    · have c' : ¬ (i : Int) < 10 := by omega
      simp [a_bobbinlaw02_TreeNamesb4, e56, e57, c']
      exact hk _ H1 N1 (by simp [e1]) (by simp [e2]) hold hNN hF1
end
end Go.Proofs.YtebopfpgicamiaaDoor
