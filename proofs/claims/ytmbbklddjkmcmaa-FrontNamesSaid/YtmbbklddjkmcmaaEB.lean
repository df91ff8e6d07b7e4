/- front: FrontNames (printed by fnames.py). -/
import Derived.Test.YtmbbklddjkmcmaaEA
namespace Go.Proofs.Ytmbbklddjkmcmaa
set_option linter.unusedSimpArgs false
set_option linter.unusedVariables false
open Go Go.Fw Go.Dm

def fnS : GraphV := ⟨.exact, 1, [rowG [0]]⟩
theorem fnS_ok : fnS.Ok := gOk (by simp [rowG, nilG]) (by simp)
theorem fnS_a : fnS.av = .sl .exact 1 [[.sl .exact 1 [[i64 0]]]] := rfl
theorem fnS_t : okT fnS.g = true := by kernel_rfl
theorem fnS_s : fnS.g.length ≤ 100 ∧ edges fnS.g ≤ 10000 := ⟨by simp [fnS], by simp [fnS, edges, rowG, nilG]⟩
def fnN : GraphV := ⟨.nil, 0, []⟩
theorem fnN_ok : fnN.Ok := ⟨.inr rfl, by simp [fnN], by simp [fnN]⟩
theorem fnN_a : fnN.av = .sl .nil 0 [] := rfl
theorem fnN_t : mayG fnN.g = false := by kernel_rfl
theorem fnN_s : fnN.g.length ≤ 100 ∧ edges fnN.g ≤ 10000 := ⟨by simp [fnN], by simp [fnN, edges, rowG, nilG]⟩
def fnO : GraphV := ⟨.exact, 1, [rowG [1]]⟩
theorem fnO_ok : fnO.Ok := gOk (by simp [rowG, nilG]) (by simp)
theorem fnO_a : fnO.av = .sl .exact 1 [[.sl .exact 1 [[i64 1]]]] := rfl
theorem fnO_t : mayG fnO.g = false := by kernel_rfl
theorem fnO_s : fnO.g.length ≤ 100 ∧ edges fnO.g ≤ 10000 := ⟨by simp [fnO], by simp [fnO, edges, rowG, nilG]⟩
def fnE : GraphV := ⟨.exact, 1, [rowG []]⟩
theorem fnE_ok : fnE.Ok := gOk (by simp [rowG, nilG]) (by simp)
theorem fnE_a : fnE.av = .sl .exact 1 [[.sl .exact 1 []]] := rfl
theorem fnE_t : okT fnE.g = true := by kernel_rfl
theorem fnE_s : fnE.g.length ≤ 100 ∧ edges fnE.g ≤ 10000 := ⟨by simp [fnE], by simp [fnE, edges, rowG, nilG]⟩
def fnL : GraphV := ⟨.exact, 1, [rowG [1], rowG [], rowG [1], rowG [3]]⟩
theorem fnL_ok : fnL.Ok := gOk (by simp [rowG, nilG]) (by simp)
theorem fnL_a : fnL.av = .sl .exact 1 [[.sl .exact 1 [[i64 1]]], [.sl .exact 1 []], [.sl .exact 1 [[i64 1]]], [.sl .exact 1 [[i64 3]]]] := rfl
theorem fnL_t : okT fnL.g = true := by kernel_rfl
theorem fnL_s : fnL.g.length ≤ 100 ∧ edges fnL.g ≤ 10000 := ⟨by simp [fnL], by simp [fnL, edges, rowG, nilG]⟩
def fnD : GraphV := ⟨.exact, 1, [rowG [1, 5], rowG [2, 3], rowG [4], rowG [4], rowG [1, 5], rowG []]⟩
theorem fnD_ok : fnD.Ok := gOk (by simp [rowG, nilG]) (by simp)
theorem fnD_a : fnD.av = .sl .exact 1 [[.sl .exact 1 [[i64 1], [i64 5]]], [.sl .exact 1 [[i64 2], [i64 3]]], [.sl .exact 1 [[i64 4]]], [.sl .exact 1 [[i64 4]]], [.sl .exact 1 [[i64 1], [i64 5]]], [.sl .exact 1 []]] := rfl
theorem fnD_t : okT fnD.g = true := by kernel_rfl
theorem fnD_s : fnD.g.length ≤ 100 ∧ edges fnD.g ≤ 10000 := ⟨by simp [fnD], by simp [fnD, edges, rowG, nilG]⟩
def fnA : GraphV := ⟨.exact, 1, [rowG [1, 1], rowG []]⟩
theorem fnA_ok : fnA.Ok := gOk (by simp [rowG, nilG]) (by simp)
theorem fnA_a : fnA.av = .sl .exact 1 [[.sl .exact 1 [[i64 1], [i64 1]]], [.sl .exact 1 []]] := rfl
theorem fnA_t : okT fnA.g = true := by kernel_rfl
theorem fnA_s : fnA.g.length ≤ 100 ∧ edges fnA.g ≤ 10000 := ⟨by simp [fnA], by simp [fnA, edges, rowG, nilG]⟩
def fnB : GraphV := ⟨.exact, 1, [rowG [1], rowG [0, 2], rowG []]⟩
theorem fnB_ok : fnB.Ok := gOk (by simp [rowG, nilG]) (by simp)
theorem fnB_a : fnB.av = .sl .exact 1 [[.sl .exact 1 [[i64 1]]], [.sl .exact 1 [[i64 0], [i64 2]]], [.sl .exact 1 []]] := rfl
theorem fnB_t : okT fnB.g = true := by kernel_rfl
theorem fnB_s : fnB.g.length ≤ 100 ∧ edges fnB.g ≤ 10000 := ⟨by simp [fnB], by simp [fnB, edges, rowG, nilG]⟩
def fw0 : GraphV := ⟨.exact, 1, [rowG [0]]⟩
theorem fw0_ok : fw0.Ok := gOk (by simp [rowG, nilG]) (by simp)
theorem fw0_a : fw0.av = .sl .exact 1 [[.sl .exact 1 [[i64 0]]]] := rfl
theorem fw0_w : frS fnS.g = fw0.g.map (·.l) := (frS_eq fnS_t).trans (by kernel_rfl)
theorem q0 : PCall Try.prog 29 [.sl .exact 1 [[.sl .exact 1 [[i64 0]]]], .sl .exact 1 [[.sl .exact 1 [[i64 0]]]]] (bl true) := by
  have := p_is fnS fw0 fnS_ok fw0_ok fnS_s.1 fnS_s.2 fw0_w
  rwa [fnS_a, fw0_a] at this
def fw1 : GraphV := ⟨.nil, 0, []⟩
theorem fw1_ok : fw1.Ok := ⟨.inr rfl, by simp [fw1], by simp [fw1]⟩
theorem fw1_a : fw1.av = .sl .nil 0 [] := rfl
theorem fw1_w : frS fnN.g = fw1.g.map (·.l) := by simp [frS, fnN_t, fw1]
theorem q1 : PCall Try.prog 29 [.sl .nil 0 [], .sl .nil 0 []] (bl true) := by
  have := p_is fnN fw1 fnN_ok fw1_ok fnN_s.1 fnN_s.2 fw1_w
  rwa [fnN_a, fw1_a] at this
def fw2 : GraphV := ⟨.nil, 0, []⟩
theorem fw2_ok : fw2.Ok := ⟨.inr rfl, by simp [fw2], by simp [fw2]⟩
theorem fw2_a : fw2.av = .sl .nil 0 [] := rfl
theorem fw2_w : frS fnO.g = fw2.g.map (·.l) := by simp [frS, fnO_t, fw2]
theorem q2 : PCall Try.prog 29 [.sl .exact 1 [[.sl .exact 1 [[i64 1]]]], .sl .nil 0 []] (bl true) := by
  have := p_is fnO fw2 fnO_ok fw2_ok fnO_s.1 fnO_s.2 fw2_w
  rwa [fnO_a, fw2_a] at this
def fw3 : GraphV := ⟨.exact, 1, [nilG]⟩
theorem fw3_ok : fw3.Ok := gOk (by simp [rowG, nilG]) (by simp)
theorem fw3_a : fw3.av = .sl .exact 1 [[.sl .nil 0 []]] := rfl
theorem fw3_w : frS fnE.g = fw3.g.map (·.l) := (frS_eq fnE_t).trans (by kernel_rfl)
theorem q3 : PCall Try.prog 29 [.sl .exact 1 [[.sl .exact 1 []]], .sl .exact 1 [[.sl .nil 0 []]]] (bl true) := by
  have := p_is fnE fw3 fnE_ok fw3_ok fnE_s.1 fnE_s.2 fw3_w
  rwa [fnE_a, fw3_a] at this
def fw4 : GraphV := ⟨.exact, 1, [nilG, nilG, nilG, nilG]⟩
theorem fw4_ok : fw4.Ok := gOk (by simp [rowG, nilG]) (by simp)
theorem fw4_a : fw4.av = .sl .exact 1 [[.sl .nil 0 []], [.sl .nil 0 []], [.sl .nil 0 []], [.sl .nil 0 []]] := rfl
theorem fw4_w : frS fnL.g = fw4.g.map (·.l) := (frS_eq fnL_t).trans (by kernel_rfl)
theorem q4 : PCall Try.prog 29 [.sl .exact 1 [[.sl .exact 1 [[i64 1]]], [.sl .exact 1 []], [.sl .exact 1 [[i64 1]]], [.sl .exact 1 [[i64 3]]]], .sl .exact 1 [[.sl .nil 0 []], [.sl .nil 0 []], [.sl .nil 0 []], [.sl .nil 0 []]]] (bl true) := by
  have := p_is fnL fw4 fnL_ok fw4_ok fnL_s.1 fnL_s.2 fw4_w
  rwa [fnL_a, fw4_a] at this
theorem fp5 : natI (plG fnL.g [2, 3]) = [] := by rw [plG_eq fnL_t (by kernel_rfl)]; kernel_rfl
theorem q5 (H : AHeap) (N : Nat) : ACall Try.prog 30 [.sl .exact 1 [[.sl .exact 1 [[i64 1]]], [.sl .exact 1 []], [.sl .exact 1 [[i64 1]]], [.sl .exact 1 [[i64 3]]]], .sl .exact 1 [[i64 2], [i64 3]]] H N (fun r H' N' => SlAt H' r []) := by
  have := a_Placed (x := fnL) (H := H) (N := N) (ls := [2, 3]) (v := .sl .exact 1 [[i64 2], [i64 3]]) fnL_ok fnL_s.1 fnL_s.2 (by simp) (fun H' _ => (RdSl.sl .exact : RdSl H' 1 (intCells [2, 3]) (.sl .exact 1 (intCells [2, 3]))))
  rw [fnL_a, fp5] at this
  exact this.mono fun r H' N' h => h.1
def fw6 : GraphV := ⟨.exact, 1, [nilG, rowG [1, 5], rowG [4], rowG [4], rowG [1, 5], nilG]⟩
theorem fw6_ok : fw6.Ok := gOk (by simp [rowG, nilG]) (by simp)
theorem fw6_a : fw6.av = .sl .exact 1 [[.sl .nil 0 []], [.sl .exact 1 [[i64 1], [i64 5]]], [.sl .exact 1 [[i64 4]]], [.sl .exact 1 [[i64 4]]], [.sl .exact 1 [[i64 1], [i64 5]]], [.sl .nil 0 []]] := rfl
theorem fw6_w : frS fnD.g = fw6.g.map (·.l) := (frS_eq fnD_t).trans (by kernel_rfl)
theorem q6 : PCall Try.prog 29 [.sl .exact 1 [[.sl .exact 1 [[i64 1], [i64 5]]], [.sl .exact 1 [[i64 2], [i64 3]]], [.sl .exact 1 [[i64 4]]], [.sl .exact 1 [[i64 4]]], [.sl .exact 1 [[i64 1], [i64 5]]], [.sl .exact 1 []]], .sl .exact 1 [[.sl .nil 0 []], [.sl .exact 1 [[i64 1], [i64 5]]], [.sl .exact 1 [[i64 4]]], [.sl .exact 1 [[i64 4]]], [.sl .exact 1 [[i64 1], [i64 5]]], [.sl .nil 0 []]]] (bl true) := by
  have := p_is fnD fw6 fnD_ok fw6_ok fnD_s.1 fnD_s.2 fw6_w
  rwa [fnD_a, fw6_a] at this
theorem fp7 : natI (plG fnD.g [2]) = [1, 4, 5] := by rw [plG_eq fnD_t (by kernel_rfl)]; kernel_rfl
theorem q7 (H : AHeap) (N : Nat) : ACall Try.prog 30 [.sl .exact 1 [[.sl .exact 1 [[i64 1], [i64 5]]], [.sl .exact 1 [[i64 2], [i64 3]]], [.sl .exact 1 [[i64 4]]], [.sl .exact 1 [[i64 4]]], [.sl .exact 1 [[i64 1], [i64 5]]], [.sl .exact 1 []]], .sl .exact 1 [[i64 2]]] H N (fun r H' N' => SlAt H' r [1, 4, 5]) := by
  have := a_Placed (x := fnD) (H := H) (N := N) (ls := [2]) (v := .sl .exact 1 [[i64 2]]) fnD_ok fnD_s.1 fnD_s.2 (by simp) (fun H' _ => (RdSl.sl .exact : RdSl H' 1 (intCells [2]) (.sl .exact 1 (intCells [2]))))
  rw [fnD_a, fp7] at this
  exact this.mono fun r H' N' h => h.1
theorem fp8 : natI (plG fnD.g [5]) = [] := by rw [plG_eq fnD_t (by kernel_rfl)]; kernel_rfl
theorem q8 (H : AHeap) (N : Nat) : ACall Try.prog 30 [.sl .exact 1 [[.sl .exact 1 [[i64 1], [i64 5]]], [.sl .exact 1 [[i64 2], [i64 3]]], [.sl .exact 1 [[i64 4]]], [.sl .exact 1 [[i64 4]]], [.sl .exact 1 [[i64 1], [i64 5]]], [.sl .exact 1 []]], .sl .exact 1 [[i64 5]]] H N (fun r H' N' => SlAt H' r []) := by
  have := a_Placed (x := fnD) (H := H) (N := N) (ls := [5]) (v := .sl .exact 1 [[i64 5]]) fnD_ok fnD_s.1 fnD_s.2 (by simp) (fun H' _ => (RdSl.sl .exact : RdSl H' 1 (intCells [5]) (.sl .exact 1 (intCells [5]))))
  rw [fnD_a, fp8] at this
  exact this.mono fun r H' N' h => h.1
theorem fp9 : natI (plG fnD.g [5, 2]) = [1, 4, 5] := by rw [plG_eq fnD_t (by kernel_rfl)]; kernel_rfl
theorem q9 (H : AHeap) (N : Nat) : ACall Try.prog 30 [.sl .exact 1 [[.sl .exact 1 [[i64 1], [i64 5]]], [.sl .exact 1 [[i64 2], [i64 3]]], [.sl .exact 1 [[i64 4]]], [.sl .exact 1 [[i64 4]]], [.sl .exact 1 [[i64 1], [i64 5]]], [.sl .exact 1 []]], .sl .exact 1 [[i64 5], [i64 2]]] H N (fun r H' N' => SlAt H' r [1, 4, 5]) := by
  have := a_Placed (x := fnD) (H := H) (N := N) (ls := [5, 2]) (v := .sl .exact 1 [[i64 5], [i64 2]]) fnD_ok fnD_s.1 fnD_s.2 (by simp) (fun H' _ => (RdSl.sl .exact : RdSl H' 1 (intCells [5, 2]) (.sl .exact 1 (intCells [5, 2]))))
  rw [fnD_a, fp9] at this
  exact this.mono fun r H' N' h => h.1
theorem fp10 : natI (plG fnD.g [(-1), 6, 99]) = [] := by rw [plG_eq fnD_t (by kernel_rfl)]; kernel_rfl
theorem q10 (H : AHeap) (N : Nat) : ACall Try.prog 30 [.sl .exact 1 [[.sl .exact 1 [[i64 1], [i64 5]]], [.sl .exact 1 [[i64 2], [i64 3]]], [.sl .exact 1 [[i64 4]]], [.sl .exact 1 [[i64 4]]], [.sl .exact 1 [[i64 1], [i64 5]]], [.sl .exact 1 []]], .sl .exact 1 [[i64 (-1)], [i64 6], [i64 99]]] H N (fun r H' N' => SlAt H' r []) := by
  have := a_Placed (x := fnD) (H := H) (N := N) (ls := [(-1), 6, 99]) (v := .sl .exact 1 [[i64 (-1)], [i64 6], [i64 99]]) fnD_ok fnD_s.1 fnD_s.2 (by simp) (fun H' _ => (RdSl.sl .exact : RdSl H' 1 (intCells [(-1), 6, 99]) (.sl .exact 1 (intCells [(-1), 6, 99]))))
  rw [fnD_a, fp10] at this
  exact this.mono fun r H' N' h => h.1
theorem fp11 : natI (plG fnN.g [0]) = [] := by simp [plG, fnN_t, natI]
theorem q11 (H : AHeap) (N : Nat) : ACall Try.prog 30 [.sl .nil 0 [], .sl .exact 1 [[i64 0]]] H N (fun r H' N' => SlAt H' r []) := by
  have := a_Placed (x := fnN) (H := H) (N := N) (ls := [0]) (v := .sl .exact 1 [[i64 0]]) fnN_ok fnN_s.1 fnN_s.2 (by simp) (fun H' _ => (RdSl.sl .exact : RdSl H' 1 (intCells [0]) (.sl .exact 1 (intCells [0]))))
  rw [fnN_a, fp11] at this
  exact this.mono fun r H' N' h => h.1
def fw12 : GraphV := ⟨.exact, 1, [nilG, nilG]⟩
theorem fw12_ok : fw12.Ok := gOk (by simp [rowG, nilG]) (by simp)
theorem fw12_a : fw12.av = .sl .exact 1 [[.sl .nil 0 []], [.sl .nil 0 []]] := rfl
theorem fw12_w : frS fnA.g = fw12.g.map (·.l) := (frS_eq fnA_t).trans (by kernel_rfl)
theorem q12 : PCall Try.prog 29 [.sl .exact 1 [[.sl .exact 1 [[i64 1], [i64 1]]], [.sl .exact 1 []]], .sl .exact 1 [[.sl .nil 0 []], [.sl .nil 0 []]]] (bl true) := by
  have := p_is fnA fw12 fnA_ok fw12_ok fnA_s.1 fnA_s.2 fw12_w
  rwa [fnA_a, fw12_a] at this
def fw13 : GraphV := ⟨.exact, 1, [rowG [0], rowG [0], nilG]⟩
theorem fw13_ok : fw13.Ok := gOk (by simp [rowG, nilG]) (by simp)
theorem fw13_a : fw13.av = .sl .exact 1 [[.sl .exact 1 [[i64 0]]], [.sl .exact 1 [[i64 0]]], [.sl .nil 0 []]] := rfl
theorem fw13_w : frS fnB.g = fw13.g.map (·.l) := (frS_eq fnB_t).trans (by kernel_rfl)
theorem q13 : PCall Try.prog 29 [.sl .exact 1 [[.sl .exact 1 [[i64 1]]], [.sl .exact 1 [[i64 0], [i64 2]]], [.sl .exact 1 []]], .sl .exact 1 [[.sl .exact 1 [[i64 0]]], [.sl .exact 1 [[i64 0]]], [.sl .nil 0 []]]] (bl true) := by
  have := p_is fnB fw13 fnB_ok fw13_ok fnB_s.1 fnB_s.2 fw13_w
  rwa [fnB_a, fw13_a] at this

theorem p_FrontNames (H : AHeap) (N : Nat) : ACall Try.prog 9 [] H N (fun r _ _ => r = bl true) := by
  refine acallF mixed c_bobbinlaw13_FrontNames (by simp) fun hF => ?_
  simp [a_bobbinlaw13_FrontNames]
  refine p_works.acall ?_
  simp
  refine q0.acall ?_
  simp
  refine q1.acall ?_
  simp
  refine q2.acall ?_
  simp
  refine q3.acall ?_
  simp
  refine q4.acall ?_
  simp
  refine (q5 _ _).mono ?_
  rintro r5 H5 N5 hs5
  have hl5 : alen 1 r5 = some 0 := by have := hs5.rd.len; rwa [intCells_len] at this
  simp [hl5, -alen]
  refine q6.acall ?_
  simp
  refine (q7 _ _).mono ?_
  rintro r7 H7 N7 hs7
  simp
  refine (p_Ints (H := H7) hs7.rd (RdSl.sl .exact : RdSl H7 1 (intCells [1, 4, 5]) (.sl .exact 1 (intCells [1, 4, 5]))) (by simp [maxLen]) N7).mono ?_
  rintro s7 J7 M7 ⟨rfl, rfl, rfl⟩
  simp
  refine (q8 _ _).mono ?_
  rintro r8 H8 N8 hs8
  simp
  refine (p_Ints (H := H8) hs8.rd (RdSl.nil .nil 0) (lb := []) (by simp [maxLen]) N8).mono ?_
  rintro s8 J8 M8 ⟨rfl, rfl, rfl⟩
  simp
  refine (q9 _ _).mono ?_
  rintro r9 H9 N9 hs9
  simp
  refine (p_Ints (H := H9) hs9.rd (RdSl.sl .exact : RdSl H9 1 (intCells [1, 4, 5]) (.sl .exact 1 (intCells [1, 4, 5]))) (by simp [maxLen]) N9).mono ?_
  rintro s9 J9 M9 ⟨rfl, rfl, rfl⟩
  simp
  refine (q10 _ _).mono ?_
  rintro r10 H10 N10 hs10
  simp
  refine (p_Ints (H := H10) hs10.rd (RdSl.nil .nil 0) (lb := []) (by simp [maxLen]) N10).mono ?_
  rintro s10 J10 M10 ⟨rfl, rfl, rfl⟩
  simp
  refine (q11 _ _).mono ?_
  rintro r11 H11 N11 hs11
  have hl11 : alen 1 r11 = some 0 := by have := hs11.rd.len; rwa [intCells_len] at this
  simp [hl11, -alen]
  refine q12.acall ?_
  simp
  refine q13.acall ?_
  simp

end Go.Proofs.Ytmbbklddjkmcmaa
