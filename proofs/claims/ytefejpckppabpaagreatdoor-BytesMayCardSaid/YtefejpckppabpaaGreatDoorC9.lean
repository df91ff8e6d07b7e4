/- code: the document's answer: what an operation names alone. -/
import Derived.Test.YtefejpckppabpaaGreatDoorC8
namespace Go.Proofs.YtefejpckppabpaaGreatDoor
set_option linter.unusedSimpArgs false
set_option linter.unusedVariables false
open Go Go.Fw

/-- A step of 'kept': the box holds another instruction. -/
def KeptK (A : Nat → AV) (H : AHeap) (N o : Nat) (y : Ins) (fs : List Fr) (Q : Post) : Prop :=
  ∀ (A' : Nat → AV) (H' : AHeap), A' 1 = A 1 → A' 2 = A 2 → A' 3 = A 3 → H' o = some (.blk y.cells) → (∀ j, j ≠ o → H' j = H j) → onward Tryz.prog fs Q .normal ⟨A', H', N⟩

def kR (x y : Ins) : Ins := {y with r := if (ofR x.op).r = true then x.r else y.r}
def kA (x y : Ins) : Ins := {y with a := if (ofR x.op).a = true then x.a else y.a}
def kB (x y : Ins) : Ins := {y with b := if (ofR x.op).b = true then x.b else y.b}
def kN (x y : Ins) : Ins := {y with n := if x.op = 2 ∨ x.op = 9 ∨ x.op = 13 then y.n else x.n}
def kC (x y : Ins) : Ins := if x.op = 10 then {y with k := x.k, z := x.z, args := x.args} else y
def keptIns (x : Ins) : Ins := kC x (kN x (kB x (kA x (kR x {zIns with op := x.op}))))

theorem Ins.s5' (x : Ins) (k : SK) (z : Nat) (l : List Int) : x.cells.set 5 (.sl k z (intCells l)) = ({x with k := k, z := z, args := l} : Ins).cells := rfl
attribute [simp] Ins.s5'

section
variable {x y : Ins} {o : Nat} {A : Nat → AV} {H : AHeap} {N : Nat} {fs : List Fr} {Q : Post}

theorem kept_r (h1 : A 1 = .ip x.cells 0) (h3 : A 3 = .mp o 0) (h5 : A 5 = bl (ofR x.op).r) (hH : H o = some (.blk y.cells)) (hk : KeptK A H N o (kR x y) fs Q) : run Tryz.prog a_kept_r fs Q ⟨A, H, N⟩ := by
  by_cases h : (ofR x.op).r = true
  · simp [a_kept_r, h1, h3, h5, hH, h]
    exact hk _ _ (by simp) (by simp) (by simp) (by simp [kR, h]) set_ne
  · simp [a_kept_r, h5, h]
    exact hk _ _ (by simp) (by simp) (by simp) (by simpa [kR, h] using hH) (fun _ _ => rfl)

theorem kept_a (h1 : A 1 = .ip x.cells 0) (h3 : A 3 = .mp o 0) (hH : H o = some (.blk y.cells)) (hk : KeptK A H N o (kA x y) fs Q) : run Tryz.prog a_kept_a fs Q ⟨A, H, N⟩ := by
  by_cases h : x.op = 2 ∨ x.op = 3 ∨ x.op = 4 ∨ x.op = 5 ∨ x.op = 6 ∨ x.op = 9 ∨ x.op = 12 ∨ x.op = 13
  · have ha : (ofR x.op).a = true := by rw [ofR_a]; simp [h]
    have hk := fun A' H' a1 a2 a3 (a4 : H' o = some (.blk {y with a := x.a}.cells)) => hk A' H' a1 a2 a3 (by simp only [kA, ha, if_true]; exact a4)
    rcases h with h | h | h | h | h | h | h | h <;>
    · simp [a_kept_a, h1, h3, hH, h]
      exact hk _ _ (by simp) (by simp) (by simp) (by simp) set_ne
  · have ha : (ofR x.op).a = false := by rw [ofR_a]; simp [h]
    simp only [not_or] at h
    simp [a_kept_a, h1, h]
    exact hk _ _ (by simp) (by simp) (by simp) (by simpa [kA, ha] using hH) (fun _ _ => rfl)

theorem kept_b (h1 : A 1 = .ip x.cells 0) (h3 : A 3 = .mp o 0) (hH : H o = some (.blk y.cells)) (hk : KeptK A H N o (kB x y) fs Q) : run Tryz.prog a_kept_b fs Q ⟨A, H, N⟩ := by
  by_cases h : x.op = 4
  · have ha : (ofR x.op).b = true := by rw [ofR_b]; simp [h]
    simp [a_kept_b, h1, h3, hH, h]
    exact hk _ _ (by simp) (by simp) (by simp) (by simp [kB, ha]) set_ne
  · by_cases h6 : x.op = 6
    · have ha : (ofR x.op).b = true := by rw [ofR_b]; simp [h6]
      simp [a_kept_b, h1, h3, hH, h6]
      exact hk _ _ (by simp) (by simp) (by simp) (by simp [kB, ha]) set_ne
    · have ha : (ofR x.op).b = false := by rw [ofR_b]; simp [h, h6]
      simp [a_kept_b, h1, h, h6]
      exact hk _ _ (by simp) (by simp) (by simp) (by simpa [kB, ha] using hH) (fun _ _ => rfl)

theorem kept_n2 (h : x.op = 2) (h1 : A 1 = .ip x.cells 0) (hH : H o = some (.blk y.cells)) (hk : KeptK A H N o (kN x y) fs Q) : run Tryz.prog a_kept_n fs Q ⟨A, H, N⟩ := by
  simp [a_kept_n, h1, h]
  exact hk _ _ (by simp) (by simp) (by simp) (by simpa [kN, h] using hH) (fun _ _ => rfl)
theorem kept_n9 (h : x.op = 9) (h1 : A 1 = .ip x.cells 0) (hH : H o = some (.blk y.cells)) (hk : KeptK A H N o (kN x y) fs Q) : run Tryz.prog a_kept_n fs Q ⟨A, H, N⟩ := by
  simp [a_kept_n, h1, h]
  exact hk _ _ (by simp) (by simp) (by simp) (by simpa [kN, h] using hH) (fun _ _ => rfl)
theorem kept_n13 (h : x.op = 13) (h1 : A 1 = .ip x.cells 0) (hH : H o = some (.blk y.cells)) (hk : KeptK A H N o (kN x y) fs Q) : run Tryz.prog a_kept_n fs Q ⟨A, H, N⟩ := by
  simp [a_kept_n, h1, h]
  exact hk _ _ (by simp) (by simp) (by simp) (by simpa [kN, h] using hH) (fun _ _ => rfl)
theorem kept_nx (h : ¬ x.op = 2) (h9 : ¬ x.op = 9) (h13 : ¬ x.op = 13) (h3 : A 3 = .mp o 0) (h1 : A 1 = .ip x.cells 0) (hH : H o = some (.blk y.cells)) (hk : KeptK A H N o (kN x y) fs Q) : run Tryz.prog a_kept_n fs Q ⟨A, H, N⟩ := by
  simp [a_kept_n, h1, h3, hH, h, h9, h13]
  exact hk _ _ (by simp) (by simp) (by simp) (by simp [kN, h, h9, h13]) set_ne
theorem kept_n (h1 : A 1 = .ip x.cells 0) (h3 : A 3 = .mp o 0) (hH : H o = some (.blk y.cells)) (hk : KeptK A H N o (kN x y) fs Q) : run Tryz.prog a_kept_n fs Q ⟨A, H, N⟩ := by
  by_cases h : x.op = 2
  · exact kept_n2 h h1 hH hk
  · by_cases h9 : x.op = 9
    · exact kept_n9 h9 h1 hH hk
    · by_cases h13 : x.op = 13
      · exact kept_n13 h13 h1 hH hk
      · exact kept_nx h h9 h13 h3 h1 hH hk

theorem kept_c (h1 : A 1 = .ip x.cells 0) (h3 : A 3 = .mp o 0) (hH : H o = some (.blk y.cells)) (hk : KeptK A H N o (kC x y) fs Q) : run Tryz.prog a_kept_c fs Q ⟨A, H, N⟩ := by
  by_cases h : x.op = 10
  · simp [a_kept_c, h1, h3, hH, h]
    exact hk _ _ (by simp) (by simp) (by simp) (by simp [kC, h]) set_ne
  · simp [a_kept_c, h1, h]
    exact hk _ _ (by simp) (by simp) (by simp) (by simpa [kC, h] using hH) (fun _ _ => rfl)

theorem kept_rest (o : Nat) (h1 : A 1 = .ip x.cells 0) (h2 : A 2 = .mp o 0) (h3 : A 3 = .mp (o + 1) 0) (h5 : A 5 = bl (ofR x.op).r) (ho : H o = some (.blk zIns.cells)) (ho1 : H (o + 1) = some (.blk ({zIns with op := x.op} : Ins).cells)) {R : AV → AHeap → Nat → Prop}
    (hk : ∀ H' N', R (.agg (keptIns x).cells) H' N') : run Tryz.prog a_kept_rest [] (fin [.cell 2 6 true] R) ⟨A, H, N⟩ := by
  unfold a_kept_rest
  obtain ⟨_, er⟩ : ∃ c, a_kept_r = c := ⟨_, rfl⟩
  rw [er]
  obtain ⟨_, ea⟩ : ∃ c, a_kept_a = c := ⟨_, rfl⟩
  rw [ea]
  obtain ⟨_, eb⟩ : ∃ c, a_kept_b = c := ⟨_, rfl⟩
  rw [eb]
  obtain ⟨_, en⟩ : ∃ c, a_kept_n = c := ⟨_, rfl⟩
  rw [en]
  obtain ⟨_, ec⟩ : ∃ c, a_kept_c = c := ⟨_, rfl⟩
  rw [ec]
  simp
  rw [← er]
  refine kept_r (x := x) (y := {zIns with op := x.op}) (o := o + 1) h1 h3 h5 ho1 fun A1 H1 p1 p2 p3 q1 q2 => ?_
  simp
  rw [← ea]
  refine kept_a (x := x) (by simp [p1, h1]) (by simp [p3, h3]) q1 fun A2 H2 r1 r2 r3 q3 q4 => ?_
  simp
  rw [← eb]
  refine kept_b (x := x) (by simp [p1, r1, h1]) (by simp [p3, r3, h3]) q3 fun A3 H3 s1 s2 s3 q5 q6 => ?_
  simp
  rw [← en]
  refine kept_n (x := x) (by simp [p1, r1, s1, h1]) (by simp [p3, r3, s3, h3]) q5 fun A4 H4 t1 t2 t3 q7 q8 => ?_
  simp
  rw [← ec]
  refine kept_c (x := x) (by simp [p1, r1, s1, t1, h1]) (by simp [p3, r3, s3, t3, h3]) q7 fun A5 H5 u1 u2 u3 q9 q10 => ?_
  have hN1 := q10 o (by omega)
  have e1 := q8 o (by omega)
  have e2 := q6 o (by omega)
  have e3 := q4 o (by omega)
  have e4 := q2 o (by omega)
  have h3 : A5 3 = .mp (o + 1) 0 := by rw [u3, t3, s3, r3, p3, h3]
  have h2 : A5 2 = .mp o 0 := by rw [u2, t2, s2, r2, p2, h2]
  have hN : H5 o = some (.blk zIns.cells) := by
    rw [hN1, e1, e2, e3, e4, ho]
  simp [h3, h2, q9, hN]
  exact hk _ _

theorem p_kept (x : Ins) : PCall Tryz.prog 81 [.agg x.cells] (.agg (keptIns x).cells) := by
  refine PCall.of fun N => acall mixed c_bobbinref07_kept (by simp) ?_
  unfold a_bobbinref07_kept
  obtain ⟨_, er⟩ : ∃ c, a_kept_rest = c := ⟨_, rfl⟩
  rw [er]
  simp
  refine (p_refWrites x).acall ?_
  simp
  rw [← er]
  exact kept_rest N (by simp) (by simp) (by simp) (by simp) (by simp [Ins.cells, zIns, intCells]) (by simp [Ins.cells, zIns, intCells]) fun H' N' => .free (by simpa [AV.free] using Ins.freeC _)

theorem kept_ok (hx : x.Ok) : (keptIns x).Ok := by
  have hop : (keptIns x).op = x.op := by unfold keptIns kC; split <;> rfl
  refine ⟨by rw [hop]; exact hx.op0, by rw [hop]; exact hx.op1, ?_, ?_⟩
  · unfold keptIns kC; split
    · exact hx.len
    · simp [kN, kB, kA, kR, zIns]
  · unfold keptIns kC; split
    · exact hx.hz
    · exact .inr rfl

/-- Without what it names it is nothing, just if it is what it names. -/
theorem same_kept (h : known x.op = true) : sameIns x (keptIns x) = sameIns (bareIns (ofR x.op) x) zIns := by
  rcases known_cases h with h | h | h | h | h | h | h | h | h | h | h | h | h <;>
  · simp only [keptIns, bareIns, kC, kN, kB, kA, kR, bR, bA, bB, bN, bC, zIns, sameIns, ofR_r, ofR_a, ofR_b, ofR_n, h]
    simp

end
end Go.Proofs.YtefejpckppabpaaGreatDoor
