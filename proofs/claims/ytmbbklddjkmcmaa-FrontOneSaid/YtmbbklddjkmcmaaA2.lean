/- dom: whether a graph may be, in all. -/
import Derived.Test.YtmbbklddjkmcmaaA1
namespace Go.Proofs.Ytmbbklddjkmcmaa
set_option linter.unusedSimpArgs false
set_option linter.unusedVariables false
open Go Go.Fw

/-- A graph, as a value that nobody writes. -/
structure GraphV where
  k : SK
  z : Nat
  g : List RowV
def GraphV.av (x : GraphV) : AV := .sl x.k x.z (gCells x.g)
structure GraphV.Ok (x : GraphV) : Prop where
  hz : x.z = 1 ∨ x.g = []
  hl : x.g.length ≤ maxLen
  rows : ∀ r ∈ x.g, r.Ok
theorem GraphV.Ok.rd {x : GraphV} (h : x.Ok) (H : AHeap) : RdSl H 1 (gCells x.g) x.av := .inl ⟨_, _, rfl, h.hz.imp id fun h => by rw [h]; rfl⟩
theorem GraphV.len (x : GraphV) : alen 1 x.av = some (x.g.length : Int) := by simp [GraphV.av, gCells_len]
theorem GraphV.cells (x : GraphV) : x.av.cells = some [x.av] := rfl
theorem GraphV.free (x : GraphV) : x.av.free = true := by simp [GraphV.av, AV.free, gCells_free]

def outG (n : Nat) (v : Int) : Bool := decide (v < 0) || decide ((n : Int) ≤ v)
def mayG (g : List RowV) : Bool := decide (1 ≤ g.length) && (decide (g.length ≤ 32768) && !(g.any fun r => r.l.any (outG g.length)))

theorem a_may1 (x : GraphV) (v : Int) (H : AHeap) (N : Nat) : ACall Try.prog 52 [i64 v, .ip [x.av] 0] H N (fun r H' N' => r = bl (outG x.g.length v) ∧ H' = H ∧ N ≤ N') := by
  refine acall mixed c_dom_may_1 (by simp) ?_
  have hl := x.len
  by_cases h : v < 0
  · simp [a_dom_may_1, h, outG]
  · simp [a_dom_may_1, h, hl, outG, -alen]

theorem a_may2 (x : GraphV) (r : RowV) (hr : r.Ok) {H : AHeap} {o : Nat} (hH : H o = some (.blk [.fn (.func 52) [] [.ip [x.av] 0]])) (N : Nat) :
    ACall Try.prog 54 [r.av, .mp o 0] H N (fun v H' N' => v = bl (r.l.any (outG x.g.length)) ∧ H' = H ∧ N ≤ N') := by
  refine acall mixed c_dom_may_2 (by simp) ?_
  simp [a_dom_may_2, hH]
  refine (p_ContainsFunc_int (hr.rd H) hr.hl (outG x.g.length) (fun v N _ => a_may1 x v H N) N).mono ?_
  rintro v H' N' ⟨rfl, rfl, hN⟩
  simp
  exact hN

theorem p_may (x : GraphV) (hx : x.Ok) : PCall Try.prog 37 [x.av] (bl (mayG x.g)) := by
  refine PCall.of fun N => acall mixed c_dom_may (by simp) ?_
  have hl := x.len
  have hc := x.cells
  by_cases h1 : 1 ≤ x.g.length
  · by_cases h2 : x.g.length ≤ 32768
    · simp [a_dom_may, hl, hc, show (1 : Int) ≤ x.g.length by omega, show (x.g.length : Int) ≤ 32768 by omega, -alen, -AV.cells]
      refine (p_ContainsFunc_rows (hx.rd _) hx.hl (fun r => r.l.any (outG x.g.length)) (fun r N' hr => a_may2 x r (hx.rows r hr) (o := N) (by simp) N') _).mono ?_
      rintro v H' N' ⟨rfl, rfl, hN⟩
      simp [mayG, h1, h2]
      exact .free rfl
    · simp [a_dom_may, hl, hc, show (1 : Int) ≤ x.g.length by omega, show ¬ (x.g.length : Int) ≤ 32768 by omega, mayG, h2, -alen, -AV.cells]
      exact .free rfl
  · simp [a_dom_may, hl, hc, show ¬ (1 : Int) ≤ x.g.length by omega, mayG, h1, -alen, -AV.cells]
    exact .free rfl

end Go.Proofs.Ytmbbklddjkmcmaa
