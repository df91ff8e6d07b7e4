/- code: the law CodeMay. -/
import Derived.Test.YtanpcmkhhpaeiaaDoorNM
import Derived.Test.YtanpcmkhhpaeiaaDoorK4
namespace Go.Proofs.YtanpcmkhhpaeiaaDoor
set_option linter.unusedSimpArgs false
set_option linter.unusedVariables false
open Go Go.Fw

theorem eqvL_refl {α : Type} {r : α → α → Bool} (h : ∀ x, r x x = true) (l : List α) : eqvL r l l = true := eqvL_iff.2 ⟨rfl, fun i _ _ => h _⟩
theorem sameIns_refl (x : Ins) : sameIns x x = true := by simp [sameIns]
theorem sameFun_refl (x : FunV) : sameFun x x = true := by simp [sameFun, eqvL_refl sameIns_refl]
theorem samePrg_refl (p : PrgV) : samePrg p p = true := by
  unfold samePrg
  rw [eqvL_refl (r := memE) (by intro x; simp [memE]), eqvL_refl (r := strE) (by intro x; simp [strE]), eqvL_refl sameFun_refl]
  rfl

theorem p_CodeMay {p q : PrgV} (hp : p.Rch) (hq : q.Rch) (H : AHeap) (N : Nat) : ACall Tryd.prog 4 [.agg p.cells, .agg q.cells] H N (fun r _ _ => r = bl true) := by
  have hm : maxLen = 9223372036854775807 := rfl
  refine acall mixed c_bobbinlaw07_CodeMay (by simp) ?_
  simp [a_bobbinlaw07_CodeMay]
  refine (p_largeR hp H N).mono ?_
  rintro r H1 N1 ⟨rfl, rfl, b1, rfl, hb1⟩
  cases b1 with
  | true => simp
  | false =>
    obtain ⟨ht, hs⟩ := hb1 rfl
    simp
    refine (p_largeR hq _ _).mono ?_
    rintro r H2 N2 ⟨rfl, rfl, b2, rfl, hb2⟩
    cases b2 with
    | true => simp
    | false =>
      have hf := hp.fit (by omega) hs
      simp
      refine (p_May hf).acall ?_
      simp
      refine (p_refMay hf).acall ?_
      simp
      refine (p_Same hp.cmp hq.cmp).acall ?_
      simp
      refine (p_refSame hp.cmp hq.cmp).acall ?_
      simp
      refine (p_Same hp.cmp hp.cmp).acall ?_
      simp [samePrg_refl]
      refine (p_Threads (by omega) _ _).monoF ?_
      rintro v1 H6 N6 ⟨hN6, _, hB6⟩ hF6 _
      simp
      refine (p_refThreads (by omega) _ _).mono ?_
      rintro v2 H7 N7 ⟨hN7, hold, hB7⟩
      simp
      have := thrL_len p.funs
      refine (p_ints (built_after hB6 hF6 hold).rd hB7.rd (by omega) N7).mono ?_
      rintro r H8 N8 ⟨rfl, rfl, rfl⟩
      simp
end Go.Proofs.YtanpcmkhhpaeiaaDoor
