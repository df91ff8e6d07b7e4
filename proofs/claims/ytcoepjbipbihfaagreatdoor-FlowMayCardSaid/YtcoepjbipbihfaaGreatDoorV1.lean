/- flow: blocks, graphs and programs of blocks, as values. -/
import Derived.Test.YtcoepjbipbihfaaGreatDoorNJ
namespace Go.Proofs.YtcoepjbipbihfaaGreatDoor
set_option linter.unusedSimpArgs false
set_option linter.unusedVariables false
open Go Go.Fw

structure PhiV where
  r : Int
  k : SK
  args : List Int
structure BlkV where
  pk : SK
  phis : List PhiV
  ck : SK
  code : List Ins
  gk : SK
  fro : List Int
  tk : SK
  to : List Int
structure GrV where
  name : ByteArray
  thread : Bool
  params : Int
  regs : Int
  k : SK
  blocks : List BlkV
structure FrmV where
  mmk : SK
  lk : SK
  fk : SK
  mems : List MemV
  locks : List ByteArray
  funs : List GrV
def PhiV.cells (p : PhiV) : List AV := [i64 p.r, .sl p.k 1 (intCells p.args)]
def phiCells (l : List PhiV) : List (List AV) := l.map PhiV.cells
def BlkV.cells (b : BlkV) : List AV := [.sl b.pk 2 (phiCells b.phis), .sl b.ck 6 (codeCells b.code), .sl b.gk 1 (intCells b.fro), .sl b.tk 1 (intCells b.to)]
def blkCells (l : List BlkV) : List (List AV) := l.map BlkV.cells
def GrV.cells (g : GrV) : List AV := [str g.name, bl g.thread, i64 g.params, i64 g.regs, .sl g.k 4 (blkCells g.blocks)]
def grCells (l : List GrV) : List (List AV) := l.map GrV.cells
def FrmV.cells (f : FrmV) : List AV := [.sl f.mmk 3 (memCells f.mems), .sl f.lk 1 (lockCells f.locks), .sl f.fk 5 (grCells f.funs)]

theorem PhiV.len (x : PhiV) : x.cells.length = 2 := rfl
theorem PhiV.c0 (x : PhiV) : x.cells[0]? = some (i64 x.r) := rfl
theorem PhiV.c1 (x : PhiV) : x.cells[1]? = some (.sl x.k 1 (intCells x.args)) := rfl
theorem PhiV.g0 (x : PhiV) (h : 0 < x.cells.length) : x.cells[0] = i64 x.r := rfl
theorem PhiV.g1 (x : PhiV) (h : 1 < x.cells.length) : x.cells[1] = .sl x.k 1 (intCells x.args) := rfl
theorem PhiV.drop (x : PhiV) : List.take 2 x.cells = x.cells := rfl
theorem BlkV.len (x : BlkV) : x.cells.length = 4 := rfl
theorem BlkV.c0 (x : BlkV) : x.cells[0]? = some (.sl x.pk 2 (phiCells x.phis)) := rfl
theorem BlkV.c1 (x : BlkV) : x.cells[1]? = some (.sl x.ck 6 (codeCells x.code)) := rfl
theorem BlkV.c2 (x : BlkV) : x.cells[2]? = some (.sl x.gk 1 (intCells x.fro)) := rfl
theorem BlkV.c3 (x : BlkV) : x.cells[3]? = some (.sl x.tk 1 (intCells x.to)) := rfl
theorem BlkV.g0 (x : BlkV) (h : 0 < x.cells.length) : x.cells[0] = .sl x.pk 2 (phiCells x.phis) := rfl
theorem BlkV.g1 (x : BlkV) (h : 1 < x.cells.length) : x.cells[1] = .sl x.ck 6 (codeCells x.code) := rfl
theorem BlkV.g2 (x : BlkV) (h : 2 < x.cells.length) : x.cells[2] = .sl x.gk 1 (intCells x.fro) := rfl
theorem BlkV.g3 (x : BlkV) (h : 3 < x.cells.length) : x.cells[3] = .sl x.tk 1 (intCells x.to) := rfl
theorem BlkV.drop (x : BlkV) : List.take 4 x.cells = x.cells := rfl
theorem GrV.len (x : GrV) : x.cells.length = 5 := rfl
theorem GrV.c0 (x : GrV) : x.cells[0]? = some (str x.name) := rfl
theorem GrV.c1 (x : GrV) : x.cells[1]? = some (bl x.thread) := rfl
theorem GrV.c2 (x : GrV) : x.cells[2]? = some (i64 x.params) := rfl
theorem GrV.c3 (x : GrV) : x.cells[3]? = some (i64 x.regs) := rfl
theorem GrV.c4 (x : GrV) : x.cells[4]? = some (.sl x.k 4 (blkCells x.blocks)) := rfl
theorem GrV.g0 (x : GrV) (h : 0 < x.cells.length) : x.cells[0] = str x.name := rfl
theorem GrV.g1 (x : GrV) (h : 1 < x.cells.length) : x.cells[1] = bl x.thread := rfl
theorem GrV.g2 (x : GrV) (h : 2 < x.cells.length) : x.cells[2] = i64 x.params := rfl
theorem GrV.g3 (x : GrV) (h : 3 < x.cells.length) : x.cells[3] = i64 x.regs := rfl
theorem GrV.g4 (x : GrV) (h : 4 < x.cells.length) : x.cells[4] = .sl x.k 4 (blkCells x.blocks) := rfl
theorem GrV.drop (x : GrV) : List.take 5 x.cells = x.cells := rfl
theorem FrmV.len (x : FrmV) : x.cells.length = 3 := rfl
theorem FrmV.c0 (x : FrmV) : x.cells[0]? = some (.sl x.mmk 3 (memCells x.mems)) := rfl
theorem FrmV.c1 (x : FrmV) : x.cells[1]? = some (.sl x.lk 1 (lockCells x.locks)) := rfl
theorem FrmV.c2 (x : FrmV) : x.cells[2]? = some (.sl x.fk 5 (grCells x.funs)) := rfl
theorem FrmV.g0 (x : FrmV) (h : 0 < x.cells.length) : x.cells[0] = .sl x.mmk 3 (memCells x.mems) := rfl
theorem FrmV.g1 (x : FrmV) (h : 1 < x.cells.length) : x.cells[1] = .sl x.lk 1 (lockCells x.locks) := rfl
theorem FrmV.g2 (x : FrmV) (h : 2 < x.cells.length) : x.cells[2] = .sl x.fk 5 (grCells x.funs) := rfl
theorem FrmV.drop (x : FrmV) : List.take 3 x.cells = x.cells := rfl
theorem phiCells_len (l : List PhiV) : (phiCells l).length = l.length := by simp [phiCells]
theorem blkCells_len (l : List BlkV) : (blkCells l).length = l.length := by simp [blkCells]
theorem grCells_len (l : List GrV) : (grCells l).length = l.length := by simp [grCells]
theorem phiCells_sz (l : List PhiV) : ∀ x ∈ phiCells l, x.length = 2 := fun x hx => by
  obtain ⟨v, _, rfl⟩ := List.mem_map.1 hx; rfl
theorem blkCells_sz (l : List BlkV) : ∀ x ∈ blkCells l, x.length = 4 := fun x hx => by
  obtain ⟨v, _, rfl⟩ := List.mem_map.1 hx; rfl
theorem grCells_sz (l : List GrV) : ∀ x ∈ grCells l, x.length = 5 := fun x hx => by
  obtain ⟨v, _, rfl⟩ := List.mem_map.1 hx; rfl
theorem phiCells_at {l : List PhiV} {i : Nat} {x : PhiV} (h : l[i]? = some x) : (phiCells l)[i]? = some x.cells := by simp [phiCells, h]
theorem blkCells_at {l : List BlkV} {i : Nat} {x : BlkV} (h : l[i]? = some x) : (blkCells l)[i]? = some x.cells := by simp [blkCells, h]
theorem grCells_at {l : List GrV} {i : Nat} {x : GrV} (h : l[i]? = some x) : (grCells l)[i]? = some x.cells := by simp [grCells, h]
attribute [simp] PhiV.len PhiV.c0 PhiV.c1 PhiV.g0 PhiV.g1 PhiV.drop BlkV.len BlkV.c0 BlkV.c1 BlkV.c2 BlkV.c3 BlkV.g0 BlkV.g1 BlkV.g2 BlkV.g3 BlkV.drop GrV.len GrV.c0 GrV.c1 GrV.c2 GrV.c3 GrV.c4 GrV.g0 GrV.g1 GrV.g2 GrV.g3 GrV.g4 GrV.drop FrmV.len FrmV.c0 FrmV.c1 FrmV.c2 FrmV.g0 FrmV.g1 FrmV.g2 FrmV.drop phiCells_len blkCells_len grCells_len

/-- How large all parts may be. -/
structure PhiV.Ok (p : PhiV) : Prop where
  al : p.args.length ≤ 140737488355328
structure BlkV.Ok (b : BlkV) : Prop where
  pl : b.phis.length ≤ 140737488355328
  cl : b.code.length ≤ 140737488355328
  gl : b.fro.length ≤ 140737488355328
  tl : b.to.length ≤ 140737488355328
  ph : ∀ p ∈ b.phis, p.Ok
  al : ∀ x ∈ b.code, x.Ok ∧ x.args.length ≤ 140737488355328
structure GrV.Ok (g : GrV) : Prop where
  nm : g.name.size ≤ 140737488355328
  bl : g.blocks.length ≤ 140737488355328
  ok : ∀ b ∈ g.blocks, b.Ok
structure FrmV.Ok (f : FrmV) : Prop where
  ml : f.mems.length ≤ 140737488355328
  ll : f.locks.length ≤ 140737488355328
  fl : f.funs.length ≤ 140737488355328
  mn : ∀ m ∈ f.mems, m.name.size ≤ 140737488355328
  ln : ∀ s ∈ f.locks, s.size ≤ 140737488355328
  ok : ∀ g ∈ f.funs, g.Ok
end Go.Proofs.YtcoepjbipbihfaaGreatDoor
