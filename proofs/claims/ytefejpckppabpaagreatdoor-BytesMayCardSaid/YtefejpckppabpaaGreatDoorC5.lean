/- code: which instructions may be. -/
import Derived.Test.YtefejpckppabpaaGreatDoorC4
namespace Go.Proofs.YtefejpckppabpaaGreatDoor
set_option linter.unusedSimpArgs false
set_option linter.unusedVariables false
open Go Go.Fw

theorem Ins.s0 (x : Ins) (v : Int) : x.cells.set 0 (u8 v) = ({x with op := v} : Ins).cells := rfl
theorem Ins.s1 (x : Ins) (v : Int) : x.cells.set 1 (i64 v) = ({x with r := v} : Ins).cells := rfl
theorem Ins.s2 (x : Ins) (v : Int) : x.cells.set 2 (i64 v) = ({x with a := v} : Ins).cells := rfl
theorem Ins.s3 (x : Ins) (v : Int) : x.cells.set 3 (i64 v) = ({x with b := v} : Ins).cells := rfl
theorem Ins.s4 (x : Ins) (v : Int) : x.cells.set 4 (i64 v) = ({x with n := v} : Ins).cells := rfl
theorem Ins.s5 (x : Ins) : x.cells.set 5 (.sl .nil 0 []) = ({x with k := .nil, z := 0, args := []} : Ins).cells := rfl
attribute [simp] Ins.s0 Ins.s1 Ins.s2 Ins.s3 Ins.s4 Ins.s5

section
variable {w : Row} {x : Ins} {o : Nat} {A : Nat → AV} {H : AHeap} {N : Nat} {fs : List Fr} {Q : Post}

/-- A step of 'bare': the box holds another instruction. -/
def BareK (A : Nat → AV) (H : AHeap) (N o : Nat) (y : Ins) (fs : List Fr) (Q : Post) : Prop :=
  ∀ (A' : Nat → AV) (H' : AHeap), A' 2 = A 2 → A' 3 = A 3 → A' 4 = A 4 → H' o = some (.blk y.cells) → (∀ j, j ≠ o → H' j = H j) → onward Tryz.prog fs Q .normal ⟨A', H', N⟩

def bR (w : Row) (x : Ins) : Ins := {x with r := if w.r = true then 0 else x.r}
def bA (w : Row) (x : Ins) : Ins := {x with a := if w.a = true then 0 else x.a}
def bB (w : Row) (x : Ins) : Ins := {x with b := if w.b = true then 0 else x.b}
def bN (w : Row) (x : Ins) : Ins := {x with n := if w.n = 0 then x.n else 0}
def bC (w : Row) (x : Ins) : Ins := if w.n = 6 then {x with k := .nil, z := 0, args := []} else x
def bareIns (w : Row) (x : Ins) : Ins := bC w (bN w (bB w (bA w (bR w {x with op := 0}))))

theorem set_ne {H : AHeap} {o : Nat} {b : AObj} : ∀ j, j ≠ o → (H.set o b) j = H j := fun j hj => by simp [AHeap.set, hj]

theorem bare_r (h2 : A 2 = .ip w.cells 0) (h3 : A 3 = .mp o 0) (hH : H o = some (.blk x.cells)) (hk : BareK A H N o (bR w x) fs Q) : run Tryz.prog a_code_bare_r fs Q ⟨A, H, N⟩ := by
  by_cases h : w.r = true
  · simp [a_code_bare_r, h2, h3, hH, h]
    exact hk _ _ (by simp) (by simp) (by simp) (by simp [bR, h]) set_ne
  · simp [a_code_bare_r, h2, h]
    exact hk _ _ (by simp) (by simp) (by simp) (by simpa [bR, h] using hH) (fun _ _ => rfl)

theorem bare_a (h2 : A 2 = .ip w.cells 0) (h3 : A 3 = .mp o 0) (hH : H o = some (.blk x.cells)) (hk : BareK A H N o (bA w x) fs Q) : run Tryz.prog a_code_bare_a fs Q ⟨A, H, N⟩ := by
  by_cases h : w.a = true
  · simp [a_code_bare_a, h2, h3, hH, h]
    exact hk _ _ (by simp) (by simp) (by simp) (by simp [bA, h]) set_ne
  · simp [a_code_bare_a, h2, h]
    exact hk _ _ (by simp) (by simp) (by simp) (by simpa [bA, h] using hH) (fun _ _ => rfl)

theorem bare_b (h2 : A 2 = .ip w.cells 0) (h3 : A 3 = .mp o 0) (hH : H o = some (.blk x.cells)) (hk : BareK A H N o (bB w x) fs Q) : run Tryz.prog a_code_bare_b fs Q ⟨A, H, N⟩ := by
  by_cases h : w.b = true
  · simp [a_code_bare_b, h2, h3, hH, h]
    exact hk _ _ (by simp) (by simp) (by simp) (by simp [bB, h]) set_ne
  · simp [a_code_bare_b, h2, h]
    exact hk _ _ (by simp) (by simp) (by simp) (by simpa [bB, h] using hH) (fun _ _ => rfl)

theorem bare_n (h2 : A 2 = .ip w.cells 0) (h3 : A 3 = .mp o 0) (hH : H o = some (.blk x.cells)) (hk : BareK A H N o (bN w x) fs Q) : run Tryz.prog a_code_bare_n fs Q ⟨A, H, N⟩ := by
  by_cases h : w.n = 0
  · simp [a_code_bare_n, h2, h]
    exact hk _ _ (by simp) (by simp) (by simp) (by simpa [bN, h] using hH) (fun _ _ => rfl)
  · simp [a_code_bare_n, h2, h3, hH, h]
    exact hk _ _ (by simp) (by simp) (by simp) (by simp [bN, h]) set_ne

theorem bare_c (h2 : A 2 = .ip w.cells 0) (h3 : A 3 = .mp o 0) (hH : H o = some (.blk x.cells)) (hk : BareK A H N o (bC w x) fs Q) : run Tryz.prog a_code_bare_c fs Q ⟨A, H, N⟩ := by
  by_cases h : w.n = 6
  · simp [a_code_bare_c, h2, h3, hH, h]
    exact hk _ _ (by simp) (by simp) (by simp) (by simp [bC, h]) set_ne
  · simp [a_code_bare_c, h2, h]
    exact hk _ _ (by simp) (by simp) (by simp) (by simpa [bC, h] using hH) (fun _ _ => rfl)

theorem Ins.freeC (x : Ins) : freeL x.cells = true := by simp [Ins.cells, freeL, AV.free, intCells_free]

theorem p_bare (w : Row) (x : Ins) : PCall Tryz.prog 95 [.agg w.cells, .agg x.cells] (.agg (bareIns w x).cells) := by
  refine PCall.of fun N => acall mixed c_code_bare (by simp) ?_
  simp [a_code_bare]
  refine bare_r (w := w) (x := {x with op := 0}) (o := N) (by simp) (by simp) (by simp) fun A1 H1 p2 p3 p4 q1 q2 => ?_
  simp at p2 p3 p4 ⊢
  refine bare_a (w := w) (by simp [p2]) (by simp [p3]) q1 fun A2 H2 r2 r3 r4 q3 q4 => ?_
  simp
  refine bare_b (w := w) (by simp [p2, r2]) (by simp [p3, r3]) q3 fun A3 H3 s2 s3 s4 q5 q6 => ?_
  simp
  refine bare_n (w := w) (by simp [p2, r2, s2]) (by simp [p3, r3, s3]) q5 fun A4 H4 t2 t3 t4 q7 q8 => ?_
  simp
  refine bare_c (w := w) (by simp [p2, r2, s2, t2]) (by simp [p3, r3, s3, t3]) q7 fun A5 H5 u2 u3 u4 q9 q10 => ?_
  have hN1 := q10 (N + 1) (by omega)
  have e1 := q8 (N + 1) (by omega)
  have e2 := q6 (N + 1) (by omega)
  have e3 := q4 (N + 1) (by omega)
  have e4 := q2 (N + 1) (by omega)
  have h3 : A5 3 = .mp N 0 := by rw [u3, t3, s3, r3, p3]
  have h4 : A5 4 = .mp (N + 1) 0 := by rw [u4, t4, s4, r4, p4]
  have hN : H5 (N + 1) = some (.blk [u8 0, i64 0, i64 0, i64 0, i64 0, .sl .nil 0 []]) := by
    rw [hN1, e1, e2, e3, e4]; simp
  simp [h3, h4, q9, hN]
  exact .free (by simpa [AV.free] using Ins.freeC _)

end
end Go.Proofs.YtefejpckppabpaaGreatDoor
