/- Contracts of mem's numbers. -/
import Derived.Test.YtmgmgeijfkcglaaK1
namespace Go.Proofs.Ytmgmgeijfkcglaa
set_option linter.unusedSimpArgs false
set_option linter.unusedVariables false
open Go Go.Fw

abbrev i64 (n : Int) : AV := .lit (.int .i64 n)
abbrev u8 (n : Int) : AV := .lit (.int .u8 n)
abbrev bl (b : Bool) : AV := .lit (.bool b)
abbrev w64 (n : Int) : Int := IntKind.i64.wrap n
def b01 (b : Bool) : Int := if b then 1 else 0

theorem p34 (b : Bool) : PCall Try.prog 34 [bl b] (i64 (b01 b)) := by
  refine PCall.of fun N => acall mixed c34 (by simp) ?_
  cases b <;> simp [a34, b01] <;> exact .free rfl

theorem p54 (a b : Int) : PCall Try.prog 54 [i64 a, i64 b] (i64 (w64 (a + b))) := by
  refine PCall.of fun N => acall mixed c54 (by simp) ?_
  simp [a54]
  exact .free rfl
theorem p55 (a b : Int) : PCall Try.prog 55 [i64 a, i64 b] (i64 (w64 (a - b))) := by
  refine PCall.of fun N => acall mixed c55 (by simp) ?_
  simp [a55]
  exact .free rfl
theorem p56 (a b : Int) : PCall Try.prog 56 [i64 a, i64 b] (i64 (w64 (a * b))) := by
  refine PCall.of fun N => acall mixed c56 (by simp) ?_
  simp [a56]
  exact .free rfl
theorem p57 (a b : Int) (hb : b ≠ 0) : PCall Try.prog 57 [i64 a, i64 b] (i64 (w64 (a.tdiv b))) := by
  refine PCall.of fun N => acall mixed c57 (by simp) ?_
  simp [a57, hb]
  exact .free rfl
theorem p58 (a b : Int) (hb : b ≠ 0) : PCall Try.prog 58 [i64 a, i64 b] (i64 (a.tmod b)) := by
  refine PCall.of fun N => acall mixed c58 (by simp) ?_
  simp [a58, hb]
  exact .free rfl
theorem p59 (a b : Int) : PCall Try.prog 59 [i64 a, i64 b] (bl (decide (a < b))) := by
  refine PCall.of fun N => acall mixed c59 (by simp) ?_
  simp [a59]
  exact .free rfl
theorem p60 (a b : Int) : PCall Try.prog 60 [i64 a, i64 b] (bl (decide (a ≤ b))) := by
  refine PCall.of fun N => acall mixed c60 (by simp) ?_
  simp [a60]
  exact .free rfl
theorem p61 (a b : Int) : PCall Try.prog 61 [i64 a, i64 b] (bl (decide (a = b))) := by
  refine PCall.of fun N => acall mixed c61 (by simp) ?_
  simp [a61]
  exact .free rfl
theorem p62 (a b : Int) : PCall Try.prog 62 [i64 a, i64 b] (bl (decide (a ≠ b))) := by
  refine PCall.of fun N => acall mixed c62 (by simp) ?_
  simp [a62]
  exact .free rfl
theorem p63 (a b : Int) : PCall Try.prog 63 [i64 a, i64 b] (bl (decide (a ≠ 0 ∧ b ≠ 0))) := by
  refine PCall.of fun N => acall mixed c63 (by simp) ?_
  by_cases h : a = 0 <;> simp [a63, h] <;> exact .free rfl
theorem p64 (a b : Int) : PCall Try.prog 64 [i64 a, i64 b] (bl (decide (a ≠ 0 ∨ b ≠ 0))) := by
  refine PCall.of fun N => acall mixed c64 (by simp) ?_
  by_cases h : a = 0 <;> simp [a64, h] <;> exact .free rfl

def cmp (f : FuncId) : AV := .fn (.func 53) [] [.ip [.fn (.func f) [] []] 0]
theorem p52 (f : FuncId) : PCall Try.prog 52 [.fn (.func f) [] []] (cmp f) := by
  refine PCall.of fun N => acall mixed c52 (by simp) ?_
  simp [a52]
  exact .free rfl
theorem p53 (f : FuncId) (a b : Int) (r : Bool) (h : PCall Try.prog f [i64 a, i64 b] (bl r)) : PCall Try.prog 53 [i64 a, i64 b, .ip [.fn (.func f) [] []] 0] (i64 (b01 r)) := by
  refine PCall.of fun N => acall mixed c53 (by simp) ?_
  simp [a53]
  refine h.acall ?_
  simp
  refine (p34 r).acall ?_
  simp
  exact .free rfl

/-- The table of operations. -/
def opsTab : List (Value × AV) :=
  [(.int .u8 7, .fn (.func 54) [] []), (.int .u8 8, .fn (.func 55) [] []), (.int .u8 9, .fn (.func 56) [] []), (.int .u8 10, .fn (.func 57) [] []), (.int .u8 11, .fn (.func 58) [] []),
   (.int .u8 12, cmp 59), (.int .u8 13, cmp 60), (.int .u8 14, cmp 61), (.int .u8 15, cmp 62), (.int .u8 16, cmp 63), (.int .u8 17, cmp 64)]

theorem p36 (N : Nat) : ACall Try.prog 36 [] noHeap N (fun r H' N' => r = .mm N ∧ H' N = some (.map opsTab)) := by
  refine acall mixed c36 (by simp) ?_
  simp [a36]
  refine (p52 59).acall ?_
  simp
  refine (p52 60).acall ?_
  simp
  refine (p52 61).acall ?_
  simp
  refine (p52 62).acall ?_
  simp
  refine (p52 63).acall ?_
  simp
  refine (p52 64).acall ?_
  simp [opsTab]

end Go.Proofs.Ytmgmgeijfkcglaa
