/- code: what instructions and operations are, as values. -/
import Derived.Test.YtefejpckppabpaaGreatDoorK0
namespace Go.Proofs.YtefejpckppabpaaGreatDoor
set_option linter.unusedSimpArgs false
set_option linter.unusedVariables false
open Go Go.Fw

def intCells (l : List Int) : List (List AV) := l.map fun v => [i64 v]
theorem intCells_len (l : List Int) : (intCells l).length = l.length := by simp [intCells]
theorem intCells_sz (l : List Int) : ∀ x ∈ intCells l, x.length = 1 := fun x hx => by
  obtain ⟨v, _, rfl⟩ := List.mem_map.1 hx; rfl
theorem intCells_free (l : List Int) : freeLL (intCells l) = true := freeLL_map _ l (fun _ _ => rfl)
theorem intCells_app (l r : List Int) : intCells (l ++ r) = intCells l ++ intCells r := by simp [intCells]
theorem intCells_at {l : List Int} {i : Nat} (h : i < l.length) : (intCells l)[i]? = some [i64 l[i]] := by simp [intCells, h]

/-- An instruction. -/
structure Ins where
  op : Int
  r : Int
  a : Int
  b : Int
  n : Int
  k : SK
  z : Nat
  args : List Int

def Ins.cells (x : Ins) : List AV := [u8 x.op, i64 x.r, i64 x.a, i64 x.b, i64 x.n, .sl x.k x.z (intCells x.args)]
structure Ins.Ok (x : Ins) : Prop where
  op0 : 0 ≤ x.op
  op1 : x.op < 256
  len : x.args.length ≤ maxLen
  hz : x.z = 1 ∨ x.args = []

theorem Ins.Ok.rd {x : Ins} (h : x.Ok) (H : AHeap) : RdSl H 1 (intCells x.args) (.sl x.k x.z (intCells x.args)) := .inl ⟨_, _, rfl, h.hz.imp id fun h => by rw [h]; rfl⟩
theorem Row.len (w : Row) : w.cells.length = 5 := by simp [Row.cells]
theorem Row.c0 (w : Row) : w.cells[0]? = some (bl w.r) := rfl
theorem Row.c1 (w : Row) : w.cells[1]? = some (bl w.a) := rfl
theorem Row.c2 (w : Row) : w.cells[2]? = some (bl w.b) := rfl
theorem Row.c3 (w : Row) : w.cells[3]? = some (bl w.bare) := rfl
theorem Row.c4 (w : Row) : w.cells[4]? = some (i64 w.n) := rfl
theorem Row.drop (w : Row) : List.take 5 w.cells = w.cells := rfl
theorem Ins.len (x : Ins) : x.cells.length = 6 := by simp [Ins.cells]
theorem Ins.c0 (x : Ins) : x.cells[0]? = some (u8 x.op) := rfl
theorem Ins.c1 (x : Ins) : x.cells[1]? = some (i64 x.r) := rfl
theorem Ins.c2 (x : Ins) : x.cells[2]? = some (i64 x.a) := rfl
theorem Ins.c3 (x : Ins) : x.cells[3]? = some (i64 x.b) := rfl
theorem Ins.c4 (x : Ins) : x.cells[4]? = some (i64 x.n) := rfl
theorem Ins.c5 (x : Ins) : x.cells[5]? = some (.sl x.k x.z (intCells x.args)) := rfl
theorem Ins.drop (x : Ins) : List.take 6 x.cells = x.cells := rfl
theorem Row.g0 (w : Row) (h : 0 < w.cells.length) : w.cells[0] = bl w.r := rfl
theorem Row.g1 (w : Row) (h : 1 < w.cells.length) : w.cells[1] = bl w.a := rfl
theorem Row.g2 (w : Row) (h : 2 < w.cells.length) : w.cells[2] = bl w.b := rfl
theorem Row.g3 (w : Row) (h : 3 < w.cells.length) : w.cells[3] = bl w.bare := rfl
theorem Row.g4 (w : Row) (h : 4 < w.cells.length) : w.cells[4] = i64 w.n := rfl
theorem Ins.g0 (w : Ins) (h : 0 < w.cells.length) : w.cells[0] = u8 w.op := rfl
theorem Ins.g1 (w : Ins) (h : 1 < w.cells.length) : w.cells[1] = i64 w.r := rfl
theorem Ins.g2 (w : Ins) (h : 2 < w.cells.length) : w.cells[2] = i64 w.a := rfl
theorem Ins.g3 (w : Ins) (h : 3 < w.cells.length) : w.cells[3] = i64 w.b := rfl
theorem Ins.g4 (w : Ins) (h : 4 < w.cells.length) : w.cells[4] = i64 w.n := rfl
theorem Ins.g5 (w : Ins) (h : 5 < w.cells.length) : w.cells[5] = .sl w.k w.z (intCells w.args) := rfl
attribute [simp] Row.g0 Row.g1 Row.g2 Row.g3 Row.g4 Ins.g0 Ins.g1 Ins.g2 Ins.g3 Ins.g4 Ins.g5 Row.len Row.c0 Row.c1 Row.c2 Row.c3 Row.c4 Row.drop Ins.len Ins.c0 Ins.c1 Ins.c2 Ins.c3 Ins.c4 Ins.c5 Ins.drop splice_full

end Go.Proofs.YtefejpckppabpaaGreatDoor
