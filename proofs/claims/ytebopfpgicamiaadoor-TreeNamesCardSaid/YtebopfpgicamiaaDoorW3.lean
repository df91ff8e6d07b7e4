/- tree: all of some elements: the same text for each type (printed by allp.py). -/
import Derived.Test.YtebopfpgicamiaaDoorW1
import Derived.Test.YtebopfpgicamiaaDoorW2
namespace Go.Proofs.YtebopfpgicamiaaDoor
set_option linter.unusedSimpArgs false
set_option linter.unusedVariables false
open Go Go.Fw

theorem p_allP_string {k : SK} {l : List ByteArray} (hl : l.length ≤ 1000000000) {g : FuncId} {p : ByteArray → Bool} (hg : ∀ e ∈ l, PCall Tryd.prog g [str e] (bl (p e))) : PCall Tryd.prog 52 [.sl k 1 (strCells l), .fn (.func g) [] []] (bl (l.all p)) := by
  refine PCall.of fun N => (p_all_string (J := fun i _ => (l.take i).all p = true) (Kx := fun _ => l.all p = false) (strCells_sz l) (by rw [strCells_len]; exact hl) (fun i x H1 N1 hx hN1 hJ => ?_) (by simp)).mono ?_
  · obtain ⟨e, he, rfl⟩ : ∃ e, l[i]? = some e ∧ x = str e := by
      simp [strCells] at hx
      obtain ⟨e, h1, h2⟩ := hx
      exact ⟨e, h1, h2.symm⟩
    have hlt := (List.getElem?_eq_some_iff.1 he).1
    have hle := (List.getElem?_eq_some_iff.1 he).2
    refine (hg e (List.mem_of_getElem? he)).acall ?_
    simp only at hJ
    cases hp : p e with
    | true => exact .inl ⟨rfl, by simp only; rw [take_next hlt, List.all_append, hJ, hle]; simp [hp]⟩
    | false => exact .inr ⟨rfl, List.all_eq_false.2 ⟨e, List.mem_of_getElem? he, by simp [hp]⟩⟩
  · rintro r H' N' ⟨K, _, _, _, ⟨rfl, h⟩ | ⟨rfl, h⟩⟩
    · rw [strCells_len, List.take_length] at h
      rw [h]; exact .free rfl
    · rw [h]; exact .free rfl

theorem p_allP_Expr {k : SK} {l : List ExprV} (hl : l.length ≤ 1000000000) {g : FuncId} {p : ExprV → Bool} (hg : ∀ e ∈ l, PCall Tryd.prog g [.agg e.cells] (bl (p e))) : PCall Tryd.prog 42 [.sl k 5 (exprCells l), .fn (.func g) [] []] (bl (l.all p)) := by
  refine PCall.of fun N => (p_all_Expr (J := fun i _ => (l.take i).all p = true) (Kx := fun _ => l.all p = false) (exprCells_sz l) (by rw [exprCells_len]; exact hl) (fun i x H1 N1 hx hN1 hJ => ?_) (by simp)).mono ?_
  · obtain ⟨e, he, rfl⟩ : ∃ e, l[i]? = some e ∧ x = .agg e.cells := by
      simp [exprCells_map] at hx
      obtain ⟨e, h1, h2⟩ := hx
      exact ⟨e, h1, h2.symm⟩
    have hlt := (List.getElem?_eq_some_iff.1 he).1
    have hle := (List.getElem?_eq_some_iff.1 he).2
    refine (hg e (List.mem_of_getElem? he)).acall ?_
    simp only at hJ
    cases hp : p e with
    | true => exact .inl ⟨rfl, by simp only; rw [take_next hlt, List.all_append, hJ, hle]; simp [hp]⟩
    | false => exact .inr ⟨rfl, List.all_eq_false.2 ⟨e, List.mem_of_getElem? he, by simp [hp]⟩⟩
  · rintro r H' N' ⟨K, _, _, _, ⟨rfl, h⟩ | ⟨rfl, h⟩⟩
    · rw [exprCells_len, List.take_length] at h
      rw [h]; exact .free rfl
    · rw [h]; exact .free rfl

theorem p_allP_Stmt {k : SK} {l : List StmtV} (hl : l.length ≤ 1000000000) {g : FuncId} {p : StmtV → Bool} (hg : ∀ e ∈ l, PCall Tryd.prog g [.agg e.cells] (bl (p e))) : PCall Tryd.prog 53 [.sl k 8 (stmtCells l), .fn (.func g) [] []] (bl (l.all p)) := by
  refine PCall.of fun N => (p_all_Stmt (J := fun i _ => (l.take i).all p = true) (Kx := fun _ => l.all p = false) (stmtCells_sz l) (by rw [stmtCells_len]; exact hl) (fun i x H1 N1 hx hN1 hJ => ?_) (by simp)).mono ?_
  · obtain ⟨e, he, rfl⟩ : ∃ e, l[i]? = some e ∧ x = .agg e.cells := by
      simp [stmtCells_map] at hx
      obtain ⟨e, h1, h2⟩ := hx
      exact ⟨e, h1, h2.symm⟩
    have hlt := (List.getElem?_eq_some_iff.1 he).1
    have hle := (List.getElem?_eq_some_iff.1 he).2
    refine (hg e (List.mem_of_getElem? he)).acall ?_
    simp only at hJ
    cases hp : p e with
    | true => exact .inl ⟨rfl, by simp only; rw [take_next hlt, List.all_append, hJ, hle]; simp [hp]⟩
    | false => exact .inr ⟨rfl, List.all_eq_false.2 ⟨e, List.mem_of_getElem? he, by simp [hp]⟩⟩
  · rintro r H' N' ⟨K, _, _, _, ⟨rfl, h⟩ | ⟨rfl, h⟩⟩
    · rw [stmtCells_len, List.take_length] at h
      rw [h]; exact .free rfl
    · rw [h]; exact .free rfl

theorem p_allP_Decl {k : SK} {l : List DeclV} (hl : l.length ≤ 1000000000) {g : FuncId} {p : DeclV → Bool} (hg : ∀ e ∈ l, PCall Tryd.prog g [.agg e.cells] (bl (p e))) : PCall Tryd.prog 29 [.sl k 6 (declCells l), .fn (.func g) [] []] (bl (l.all p)) := by
  refine PCall.of fun N => (p_all_Decl (J := fun i _ => (l.take i).all p = true) (Kx := fun _ => l.all p = false) (declCells_sz l) (by rw [declCells_len]; exact hl) (fun i x H1 N1 hx hN1 hJ => ?_) (by simp)).mono ?_
  · obtain ⟨e, he, rfl⟩ : ∃ e, l[i]? = some e ∧ x = .agg e.cells := by
      simp [declCells] at hx
      obtain ⟨e, h1, h2⟩ := hx
      exact ⟨e, h1, h2.symm⟩
    have hlt := (List.getElem?_eq_some_iff.1 he).1
    have hle := (List.getElem?_eq_some_iff.1 he).2
    refine (hg e (List.mem_of_getElem? he)).acall ?_
    simp only at hJ
    cases hp : p e with
    | true => exact .inl ⟨rfl, by simp only; rw [take_next hlt, List.all_append, hJ, hle]; simp [hp]⟩
    | false => exact .inr ⟨rfl, List.all_eq_false.2 ⟨e, List.mem_of_getElem? he, by simp [hp]⟩⟩
  · rintro r H' N' ⟨K, _, _, _, ⟨rfl, h⟩ | ⟨rfl, h⟩⟩
    · rw [declCells_len, List.take_length] at h
      rw [h]; exact .free rfl
    · rw [h]; exact .free rfl
end Go.Proofs.YtebopfpgicamiaaDoor
