/- tree: slices.EqualFunc: the same text for each type (printed by eqf.py). -/
import Derived.Test.YtebopfpgicamiaaDoorWF
namespace Go.Proofs.YtebopfpgicamiaaDoor
set_option linter.unusedSimpArgs false
set_option linter.unusedVariables false
open Go Go.Fw
/-- Are these the same, one by one? -/
def eqF {α : Type} (p : α → α → Bool) (a b : List α) : Bool := decide (a.length = b.length) && (a.zip b).all fun x => p x.1 x.2
theorem eqF_map {α β : Type} (f : α → β) (p : α → α → Bool) (hp : ∀ a b, p a b = true ↔ f a = f b) : ∀ (a b : List α), eqF p a b = true ↔ a.map f = b.map f
  | [], [] => by simp [eqF]
  | [], _ :: _ => by simp [eqF]
  | _ :: _, [] => by simp [eqF]
  | x :: a, y :: b => by
    have ih := eqF_map f p hp a b
    have h := hp x y
    simp only [eqF, Bool.and_eq_true, decide_eq_true_eq, List.length_cons, List.zip_cons_cons, List.all_cons, List.map_cons, List.cons.injEq, Nat.add_right_cancel_iff] at ih ⊢
    rw [← ih, h]
    constructor
    · rintro ⟨a, b, c⟩; exact ⟨b, a, c⟩
    · rintro ⟨b, a, c⟩; exact ⟨a, b, c⟩

theorem p_EqF_Expr {ka kb : SK} {la lb : List ExprV} (hl : la.length ≤ 1000000000) {g : FuncId} {p : ExprV → ExprV → Bool} (hg : ∀ a ∈ la, ∀ b ∈ lb, PCall Tryd.prog g [.agg a.cells, .agg b.cells] (bl (p a b))) :
    PCall Tryd.prog 44 [.sl ka 5 (exprCells la), .sl kb 5 (exprCells lb), .fn (.func g) [] []] (bl (eqF p la lb)) := by
  refine PCall.of fun N => acall mixed c_slices_EqualFunc_api_Expr_api_Expr_api_Expr_api_Expr (by simp) ?_
  by_cases hll : la.length = lb.length
  · have hll' : (la.length : Int) = lb.length := by omega
    simp [a_slices_EqualFunc_api_Expr_api_Expr_api_Expr_api_Expr, exprCells_len, hll']
    refine run_loop (fun m s => ∃ j : Nat, j ≤ la.length ∧ m = la.length - j ∧ s.A 0 = .sl ka 5 (exprCells la) ∧ s.A 1 = .sl kb 5 (exprCells lb) ∧ s.A 2 = .fn (.func g) [] [] ∧ s.A 15 = .sl ka 5 (exprCells la) ∧ s.A 16 = i64 la.length ∧ s.A 17 = i64 j ∧ ((la.zip lb).take j).all (fun x => p x.1 x.2) = true) la.length ?_ ?_
    · exact ⟨0, by omega, by omega, by simp, by simp, by simp, by simp, by simp [hll'], by simp, by simp⟩
    · rintro m A1 H1 N1 ⟨j, hj, rfl, e0, e1, e2, e15, e16, e17, hp⟩
      simp only at e0 e1 e2 e15 e16 e17 hp
      by_cases hjl : j < la.length
      · have n1 : (j : Int) < la.length := by omega
        obtain ⟨x, hx⟩ : ∃ x, la[j] = x := ⟨_, rfl⟩
        have hjb : j < lb.length := by omega
        obtain ⟨y, hy⟩ : ∃ y, lb[j] = y := ⟨_, rfl⟩
        have hq : aindex 5 (.sl ka 5 (exprCells la)) (i64 (j : Nat)) = some (.ip x.cells 0) := by rw [← hx]; exact aindex_sl (by omega) (by simpa using exprCells_at (List.getElem?_eq_getElem hjl))
        have hq2 : aindex 5 (.sl kb 5 (exprCells lb)) (i64 (j : Nat)) = some (.ip y.cells 0) := by rw [← hy]; exact aindex_sl (by omega) (by simpa using exprCells_at (List.getElem?_eq_getElem hjb))
        have hxl : x.cells.length = 5 := by rw [ExprV.cells_eq]; rfl
        have hyl : y.cells.length = 5 := by rw [ExprV.cells_eq]; rfl
        have hw : IntKind.i64.wrap ((j : Int) + 1) = ((j + 1 : Nat) : Int) := by rw [wrap_i64 (by omega) (by omega)]; rfl
        have hzl : j < (la.zip lb).length := by rw [List.length_zip]; omega
        have hat := all_take (p := fun x : ExprV × ExprV => p x.1 x.2) hzl hp
        have hz : (la.zip lb)[j] = (x, y) := by rw [List.getElem_zip, hx, hy]
        rw [hz] at hat
        simp [a_slices_EqualFunc_api_Expr_api_Expr_api_Expr_api_Exprb1, e0, e1, e2, e15, e16, e17, n1, hq, hq2, hxl, hyl, take_len hxl, take_len hyl, splice_full]
        refine (hg x (by rw [← hx]; exact List.getElem_mem hjl) y (by rw [← hy]; exact List.getElem_mem hjb)).acall ?_
        cases hv : p x y with
        | true =>
          simp [e0, e1, e2, e15, e16, e17, hw]
          exact ⟨la.length - (j + 1), by omega, j + 1, by omega, rfl, rfl, by simpa using hat.trans hv⟩
        | false =>
          have : eqF p la lb = false := by
            unfold eqF
            have : ((la.zip lb).all fun x => p x.1 x.2) = false := List.all_eq_false.2 ⟨(x, y), by rw [← hz]; exact List.getElem_mem hzl, by simp [hv]⟩
            rw [this, Bool.and_false]
          rw [this]
          simp
          exact .free rfl
      · have n1 : ¬ (j : Int) < la.length := by omega
        have hje : j = la.length := by omega
        have : eqF p la lb = true := by
          unfold eqF
          rw [hje, List.take_of_length_le (by rw [List.length_zip]; omega)] at hp
          rw [hp, decide_eq_true hll]; rfl
        rw [this]
        simp [a_slices_EqualFunc_api_Expr_api_Expr_api_Expr_api_Exprb1, e16, e17, n1]
        exact .free rfl
  · have hll' : ¬ (la.length : Int) = lb.length := by omega
    have : eqF p la lb = false := by unfold eqF; rw [decide_eq_false hll]; rfl
    rw [this]
    simp [a_slices_EqualFunc_api_Expr_api_Expr_api_Expr_api_Expr, exprCells_len, hll']
    exact .free rfl

theorem p_EqF_Stmt {ka kb : SK} {la lb : List StmtV} (hl : la.length ≤ 1000000000) {g : FuncId} {p : StmtV → StmtV → Bool} (hg : ∀ a ∈ la, ∀ b ∈ lb, PCall Tryd.prog g [.agg a.cells, .agg b.cells] (bl (p a b))) :
    PCall Tryd.prog 38 [.sl ka 8 (stmtCells la), .sl kb 8 (stmtCells lb), .fn (.func g) [] []] (bl (eqF p la lb)) := by
  refine PCall.of fun N => acall mixed c_slices_EqualFunc_api_Stmt_api_Stmt_api_Stmt_api_Stmt (by simp) ?_
  by_cases hll : la.length = lb.length
  · have hll' : (la.length : Int) = lb.length := by omega
    simp [a_slices_EqualFunc_api_Stmt_api_Stmt_api_Stmt_api_Stmt, stmtCells_len, hll']
    refine run_loop (fun m s => ∃ j : Nat, j ≤ la.length ∧ m = la.length - j ∧ s.A 0 = .sl ka 8 (stmtCells la) ∧ s.A 1 = .sl kb 8 (stmtCells lb) ∧ s.A 2 = .fn (.func g) [] [] ∧ s.A 15 = .sl ka 8 (stmtCells la) ∧ s.A 16 = i64 la.length ∧ s.A 17 = i64 j ∧ ((la.zip lb).take j).all (fun x => p x.1 x.2) = true) la.length ?_ ?_
    · exact ⟨0, by omega, by omega, by simp, by simp, by simp, by simp, by simp [hll'], by simp, by simp⟩
    · rintro m A1 H1 N1 ⟨j, hj, rfl, e0, e1, e2, e15, e16, e17, hp⟩
      simp only at e0 e1 e2 e15 e16 e17 hp
      by_cases hjl : j < la.length
      · have n1 : (j : Int) < la.length := by omega
        obtain ⟨x, hx⟩ : ∃ x, la[j] = x := ⟨_, rfl⟩
        have hjb : j < lb.length := by omega
        obtain ⟨y, hy⟩ : ∃ y, lb[j] = y := ⟨_, rfl⟩
        have hq : aindex 8 (.sl ka 8 (stmtCells la)) (i64 (j : Nat)) = some (.ip x.cells 0) := by rw [← hx]; exact aindex_sl (by omega) (by simpa using stmtCells_at (List.getElem?_eq_getElem hjl))
        have hq2 : aindex 8 (.sl kb 8 (stmtCells lb)) (i64 (j : Nat)) = some (.ip y.cells 0) := by rw [← hy]; exact aindex_sl (by omega) (by simpa using stmtCells_at (List.getElem?_eq_getElem hjb))
        have hxl : x.cells.length = 8 := by rw [StmtV.cells_eq]; rfl
        have hyl : y.cells.length = 8 := by rw [StmtV.cells_eq]; rfl
        have hw : IntKind.i64.wrap ((j : Int) + 1) = ((j + 1 : Nat) : Int) := by rw [wrap_i64 (by omega) (by omega)]; rfl
        have hzl : j < (la.zip lb).length := by rw [List.length_zip]; omega
        have hat := all_take (p := fun x : StmtV × StmtV => p x.1 x.2) hzl hp
        have hz : (la.zip lb)[j] = (x, y) := by rw [List.getElem_zip, hx, hy]
        rw [hz] at hat
        simp [a_slices_EqualFunc_api_Stmt_api_Stmt_api_Stmt_api_Stmtb1, e0, e1, e2, e15, e16, e17, n1, hq, hq2, hxl, hyl, take_len hxl, take_len hyl, splice_full]
        refine (hg x (by rw [← hx]; exact List.getElem_mem hjl) y (by rw [← hy]; exact List.getElem_mem hjb)).acall ?_
        cases hv : p x y with
        | true =>
          simp [e0, e1, e2, e15, e16, e17, hw]
          exact ⟨la.length - (j + 1), by omega, j + 1, by omega, rfl, rfl, by simpa using hat.trans hv⟩
        | false =>
          have : eqF p la lb = false := by
            unfold eqF
            have : ((la.zip lb).all fun x => p x.1 x.2) = false := List.all_eq_false.2 ⟨(x, y), by rw [← hz]; exact List.getElem_mem hzl, by simp [hv]⟩
            rw [this, Bool.and_false]
          rw [this]
          simp
          exact .free rfl
      · have n1 : ¬ (j : Int) < la.length := by omega
        have hje : j = la.length := by omega
        have : eqF p la lb = true := by
          unfold eqF
          rw [hje, List.take_of_length_le (by rw [List.length_zip]; omega)] at hp
          rw [hp, decide_eq_true hll]; rfl
        rw [this]
        simp [a_slices_EqualFunc_api_Stmt_api_Stmt_api_Stmt_api_Stmtb1, e16, e17, n1]
        exact .free rfl
  · have hll' : ¬ (la.length : Int) = lb.length := by omega
    have : eqF p la lb = false := by unfold eqF; rw [decide_eq_false hll]; rfl
    rw [this]
    simp [a_slices_EqualFunc_api_Stmt_api_Stmt_api_Stmt_api_Stmt, stmtCells_len, hll']
    exact .free rfl

theorem p_EqF_Decl {ka kb : SK} {la lb : List DeclV} (hl : la.length ≤ 1000000000) {g : FuncId} {p : DeclV → DeclV → Bool} (hg : ∀ a ∈ la, ∀ b ∈ lb, PCall Tryd.prog g [.agg a.cells, .agg b.cells] (bl (p a b))) :
    PCall Tryd.prog 35 [.sl ka 6 (declCells la), .sl kb 6 (declCells lb), .fn (.func g) [] []] (bl (eqF p la lb)) := by
  refine PCall.of fun N => acall mixed c_slices_EqualFunc_api_Decl_api_Decl_api_Decl_api_Decl (by simp) ?_
  by_cases hll : la.length = lb.length
  · have hll' : (la.length : Int) = lb.length := by omega
    simp [a_slices_EqualFunc_api_Decl_api_Decl_api_Decl_api_Decl, declCells_len, hll']
    refine run_loop (fun m s => ∃ j : Nat, j ≤ la.length ∧ m = la.length - j ∧ s.A 0 = .sl ka 6 (declCells la) ∧ s.A 1 = .sl kb 6 (declCells lb) ∧ s.A 2 = .fn (.func g) [] [] ∧ s.A 15 = .sl ka 6 (declCells la) ∧ s.A 16 = i64 la.length ∧ s.A 17 = i64 j ∧ ((la.zip lb).take j).all (fun x => p x.1 x.2) = true) la.length ?_ ?_
    · exact ⟨0, by omega, by omega, by simp, by simp, by simp, by simp, by simp [hll'], by simp, by simp⟩
    · rintro m A1 H1 N1 ⟨j, hj, rfl, e0, e1, e2, e15, e16, e17, hp⟩
      simp only at e0 e1 e2 e15 e16 e17 hp
      by_cases hjl : j < la.length
      · have n1 : (j : Int) < la.length := by omega
        obtain ⟨x, hx⟩ : ∃ x, la[j] = x := ⟨_, rfl⟩
        have hjb : j < lb.length := by omega
        obtain ⟨y, hy⟩ : ∃ y, lb[j] = y := ⟨_, rfl⟩
        have hq : aindex 6 (.sl ka 6 (declCells la)) (i64 (j : Nat)) = some (.ip x.cells 0) := by rw [← hx]; exact aindex_sl (by omega) (by simpa using declCells_at (List.getElem?_eq_getElem hjl))
        have hq2 : aindex 6 (.sl kb 6 (declCells lb)) (i64 (j : Nat)) = some (.ip y.cells 0) := by rw [← hy]; exact aindex_sl (by omega) (by simpa using declCells_at (List.getElem?_eq_getElem hjb))
        have hxl : x.cells.length = 6 := rfl
        have hyl : y.cells.length = 6 := rfl
        have hw : IntKind.i64.wrap ((j : Int) + 1) = ((j + 1 : Nat) : Int) := by rw [wrap_i64 (by omega) (by omega)]; rfl
        have hzl : j < (la.zip lb).length := by rw [List.length_zip]; omega
        have hat := all_take (p := fun x : DeclV × DeclV => p x.1 x.2) hzl hp
        have hz : (la.zip lb)[j] = (x, y) := by rw [List.getElem_zip, hx, hy]
        rw [hz] at hat
        simp [a_slices_EqualFunc_api_Decl_api_Decl_api_Decl_api_Declb1, e0, e1, e2, e15, e16, e17, n1, hq, hq2, hxl, hyl, take_len hxl, take_len hyl, splice_full]
        refine (hg x (by rw [← hx]; exact List.getElem_mem hjl) y (by rw [← hy]; exact List.getElem_mem hjb)).acall ?_
        cases hv : p x y with
        | true =>
          simp [e0, e1, e2, e15, e16, e17, hw]
          exact ⟨la.length - (j + 1), by omega, j + 1, by omega, rfl, rfl, by simpa using hat.trans hv⟩
        | false =>
          have : eqF p la lb = false := by
            unfold eqF
            have : ((la.zip lb).all fun x => p x.1 x.2) = false := List.all_eq_false.2 ⟨(x, y), by rw [← hz]; exact List.getElem_mem hzl, by simp [hv]⟩
            rw [this, Bool.and_false]
          rw [this]
          simp
          exact .free rfl
      · have n1 : ¬ (j : Int) < la.length := by omega
        have hje : j = la.length := by omega
        have : eqF p la lb = true := by
          unfold eqF
          rw [hje, List.take_of_length_le (by rw [List.length_zip]; omega)] at hp
          rw [hp, decide_eq_true hll]; rfl
        rw [this]
        simp [a_slices_EqualFunc_api_Decl_api_Decl_api_Decl_api_Declb1, e16, e17, n1]
        exact .free rfl
  · have hll' : ¬ (la.length : Int) = lb.length := by omega
    have : eqF p la lb = false := by unfold eqF; rw [decide_eq_false hll]; rfl
    rw [this]
    simp [a_slices_EqualFunc_api_Decl_api_Decl_api_Decl_api_Decl, declCells_len, hll']
    exact .free rfl

theorem p_EqS {ka kb : SK} {la lb : List ByteArray} (hl : la.length ≤ 1000000000) : PCall Tryd.prog 37 [.sl ka 1 (strCells la), .sl kb 1 (strCells lb)] (bl (decide (la = lb))) := by
  refine PCall.of fun N => acall mixed c_slices_Equal_string_string (by simp) ?_
  by_cases hll : la.length = lb.length
  · have hll' : (la.length : Int) = lb.length := by omega
    simp [a_slices_Equal_string_string, strCells_len, hll']
    refine run_loop (fun m s => ∃ j : Nat, j ≤ la.length ∧ m = la.length - j ∧ s.A 0 = .sl ka 1 (strCells la) ∧ s.A 1 = .sl kb 1 (strCells lb) ∧ s.A 12 = i64 la.length ∧ s.A 13 = i64 j ∧ la.take j = lb.take j) la.length ?_ ?_
    · exact ⟨0, by omega, by omega, by simp, by simp, by simp [hll'], by simp, by simp⟩
    · rintro m A1 H1 N1 ⟨j, hj, rfl, e0, e1, e12, e13, hp⟩
      simp only at e0 e1 e12 e13 hp
      by_cases hjl : j < la.length
      · have n1 : (j : Int) < la.length := by omega
        have hjb : j < lb.length := by omega
        obtain ⟨x, hx⟩ : ∃ x, la[j] = x := ⟨_, rfl⟩
        obtain ⟨y, hy⟩ : ∃ y, lb[j] = y := ⟨_, rfl⟩
        have hq : aindex 1 (.sl ka 1 (strCells la)) (i64 (j : Nat)) = some (.ip [str x] 0) := by rw [← hx]; exact aindex_sl (by omega) (by simpa using strCells_get (List.getElem?_eq_getElem hjl))
        have hq2 : aindex 1 (.sl kb 1 (strCells lb)) (i64 (j : Nat)) = some (.ip [str y] 0) := by rw [← hy]; exact aindex_sl (by omega) (by simpa using strCells_get (List.getElem?_eq_getElem hjb))
        have hw : IntKind.i64.wrap ((j : Int) + 1) = ((j + 1 : Nat) : Int) := by rw [wrap_i64 (by omega) (by omega)]; rfl
        by_cases hxy : x = y
        · simp [a_slices_Equal_string_stringb1, e0, e1, e12, e13, n1, hq, hq2, hxy, hw]
          exact ⟨la.length - (j + 1), by omega, j + 1, by omega, rfl, rfl, by rw [take_next hjl, take_next hjb, hp, hx, hy, hxy]⟩
        · have : decide (la = lb) = false := decide_eq_false fun h => hxy (by subst h; rw [← hx, ← hy])
          rw [this]
          simp [a_slices_Equal_string_stringb1, e0, e1, e12, e13, n1, hq, hq2, hxy]
          exact .free rfl
      · have n1 : ¬ (j : Int) < la.length := by omega
        have hje : j = la.length := by omega
        have : decide (la = lb) = true := decide_eq_true (by rw [hje, List.take_length, hll, List.take_length] at hp; exact hp)
        rw [this]
        simp [a_slices_Equal_string_stringb1, e12, e13, n1]
        exact .free rfl
  · have hll' : ¬ (la.length : Int) = lb.length := by omega
    have : decide (la = lb) = false := decide_eq_false fun h => hll (by rw [h])
    rw [this]
    simp [a_slices_Equal_string_string, strCells_len, hll']
    exact .free rfl
end Go.Proofs.YtebopfpgicamiaaDoor
