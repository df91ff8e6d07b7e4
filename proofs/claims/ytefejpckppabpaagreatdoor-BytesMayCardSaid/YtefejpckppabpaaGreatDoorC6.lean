/- code: whether an instruction may be in a Fun. -/
import Derived.Test.YtefejpckppabpaaGreatDoorC5
namespace Go.Proofs.YtefejpckppabpaaGreatDoor
set_option linter.unusedSimpArgs false
set_option linter.unusedVariables false
open Go Go.Fw

structure MemV where
  name : ByteArray
  size : Int
  first : Int
structure FunV where
  name : ByteArray
  thread : Bool
  params : Int
  regs : Int
  k : SK
  code : List Ins
structure PrgV where
  mmk : SK
  lk : SK
  fk : SK
  mems : List MemV
  locks : List ByteArray
  funs : List FunV

def MemV.cells (m : MemV) : List AV := [str m.name, i64 m.size, i64 m.first]
def FunV.cells (f : FunV) : List AV := [str f.name, bl f.thread, i64 f.params, i64 f.regs, .sl f.k 6 (f.code.map Ins.cells)]
def memCells (l : List MemV) : List (List AV) := l.map MemV.cells
def lockCells (l : List ByteArray) : List (List AV) := l.map fun s => [str s]
def codeCells (l : List Ins) : List (List AV) := l.map Ins.cells
def funCells (l : List FunV) : List (List AV) := l.map FunV.cells
def PrgV.cells (p : PrgV) : List AV := [.sl p.mmk 3 (memCells p.mems), .sl p.lk 1 (lockCells p.locks), .sl p.fk 5 (funCells p.funs)]
structure PrgV.Ok (p : PrgV) : Prop where
  ml : p.mems.length ≤ maxLen
  ll : p.locks.length ≤ maxLen
  fl : p.funs.length ≤ maxLen
  cl : ∀ f ∈ p.funs, f.code.length ≤ maxLen

theorem FunV.len (x : FunV) : x.cells.length = 5 := by simp [FunV.cells]
theorem FunV.c0 (x : FunV) : x.cells[0]? = some (str x.name) := rfl
theorem FunV.c1 (x : FunV) : x.cells[1]? = some (bl x.thread) := rfl
theorem FunV.c2 (x : FunV) : x.cells[2]? = some (i64 x.params) := rfl
theorem FunV.c3 (x : FunV) : x.cells[3]? = some (i64 x.regs) := rfl
theorem FunV.c4 (x : FunV) : x.cells[4]? = some (.sl x.k 6 (codeCells x.code)) := rfl
theorem FunV.g0 (x : FunV) (h : 0 < x.cells.length) : x.cells[0] = str x.name := rfl
theorem FunV.g1 (x : FunV) (h : 1 < x.cells.length) : x.cells[1] = bl x.thread := rfl
theorem FunV.g2 (x : FunV) (h : 2 < x.cells.length) : x.cells[2] = i64 x.params := rfl
theorem FunV.g3 (x : FunV) (h : 3 < x.cells.length) : x.cells[3] = i64 x.regs := rfl
theorem FunV.g4 (x : FunV) (h : 4 < x.cells.length) : x.cells[4] = .sl x.k 6 (codeCells x.code) := rfl
theorem FunV.drop (x : FunV) : List.take 5 x.cells = x.cells := rfl
theorem PrgV.len (x : PrgV) : x.cells.length = 3 := by simp [PrgV.cells]
theorem PrgV.c0 (x : PrgV) : x.cells[0]? = some (.sl x.mmk 3 (memCells x.mems)) := rfl
theorem PrgV.c1 (x : PrgV) : x.cells[1]? = some (.sl x.lk 1 (lockCells x.locks)) := rfl
theorem PrgV.c2 (x : PrgV) : x.cells[2]? = some (.sl x.fk 5 (funCells x.funs)) := rfl
theorem PrgV.g0 (x : PrgV) (h : 0 < x.cells.length) : x.cells[0] = .sl x.mmk 3 (memCells x.mems) := rfl
theorem PrgV.g1 (x : PrgV) (h : 1 < x.cells.length) : x.cells[1] = .sl x.lk 1 (lockCells x.locks) := rfl
theorem PrgV.g2 (x : PrgV) (h : 2 < x.cells.length) : x.cells[2] = .sl x.fk 5 (funCells x.funs) := rfl
theorem PrgV.drop (x : PrgV) : List.take 3 x.cells = x.cells := rfl
theorem memCells_len (l : List MemV) : (memCells l).length = l.length := by simp [memCells]
theorem lockCells_len (l : List ByteArray) : (lockCells l).length = l.length := by simp [lockCells]
theorem codeCells_len (l : List Ins) : (codeCells l).length = l.length := by simp [codeCells]
theorem funCells_len (l : List FunV) : (funCells l).length = l.length := by simp [funCells]
theorem funCells_sz (l : List FunV) : ∀ x ∈ funCells l, x.length = 5 := fun x hx => by
  obtain ⟨v, _, rfl⟩ := List.mem_map.1 hx; rfl
theorem codeCells_sz (l : List Ins) : ∀ x ∈ codeCells l, x.length = 6 := fun x hx => by
  obtain ⟨v, _, rfl⟩ := List.mem_map.1 hx; rfl
theorem memCells_sz (l : List MemV) : ∀ x ∈ memCells l, x.length = 3 := fun x hx => by
  obtain ⟨v, _, rfl⟩ := List.mem_map.1 hx; simp [MemV.cells]
theorem lockCells_sz (l : List ByteArray) : ∀ x ∈ lockCells l, x.length = 1 := fun x hx => by
  obtain ⟨v, _, rfl⟩ := List.mem_map.1 hx; rfl
theorem funCells_at {l : List FunV} {i : Nat} {f : FunV} (h : l[i]? = some f) : (funCells l)[i]? = some f.cells := by simp [funCells, h]
theorem codeCells_at {l : List Ins} {i : Nat} {x : Ins} (h : l[i]? = some x) : (codeCells l)[i]? = some x.cells := by simp [codeCells, h]
attribute [simp] FunV.len FunV.c0 FunV.c1 FunV.c2 FunV.c3 FunV.c4 FunV.g0 FunV.g1 FunV.g2 FunV.g3 FunV.g4 FunV.drop PrgV.len PrgV.c0 PrgV.c1 PrgV.c2 PrgV.g0 PrgV.g1 PrgV.g2 PrgV.drop memCells_len lockCells_len codeCells_len funCells_len

theorem aindex_sl {k : SK} {sz : Nat} {es : List (List AV)} {x : List AV} {n : Int} (h0 : 0 ≤ n) (h : es[n.toNat]? = some x) : aindex sz (.sl k sz es) (i64 n) = some (.ip x 0) := by
  have hlt : n.toNat < es.length := (List.getElem?_eq_some_iff.1 h).1
  have hx : es[n.toNat] = x := (List.getElem?_eq_some_iff.1 h).2
  simp [aindex, h0, show n < es.length by omega, hx]

def within (n most : Int) : Bool := decide (0 ≤ n ∧ n < most)
/-- Whether an instruction's number is of what there is. -/
def numOk (p : PrgV) (f : FunV) (w : Row) (x : Ins) : Bool :=
  if w.n = 2 then decide (x.n = 5 ∨ x.n = 6) else if w.n = 3 then decide (7 ≤ x.n ∧ x.n ≤ 17) else if w.n = 4 then within x.n p.mems.length else if w.n = 5 then within x.n p.locks.length
  else if w.n = 7 then within x.n f.code.length else if w.n = 6 then within x.n p.funs.length && (match p.funs[x.n.toNat]? with | some g => !g.thread && decide ((x.args.length : Int) = g.params) | none => false) else true

theorem p_number (p : PrgV) (f : FunV) (w : Row) (x : Ins) : PCall Tryz.prog 96 [.agg p.cells, .agg f.cells, .agg w.cells, .agg x.cells] (bl (numOk p f w x)) := by
  refine PCall.of fun N => acall mixed c_code_number (by simp) ?_
  by_cases h2 : w.n = 2
  · by_cases h : x.n = 5
    · simp [a_code_number, h2, h, numOk]; exact .free rfl
    · simp [a_code_number, h2, h, numOk]; exact .free rfl
  · by_cases h3 : w.n = 3
    · by_cases h : 7 ≤ x.n
      · simp [a_code_number, h3, h, numOk]; exact .free rfl
      · simp [a_code_number, h3, h, numOk]; exact .free rfl
    · by_cases h4 : w.n = 4
      · by_cases h : 0 ≤ x.n
        · simp [a_code_number, h4, h, numOk, within]; exact .free rfl
        · simp [a_code_number, h4, h, numOk, within]; exact .free rfl
      · by_cases h5 : w.n = 5
        · by_cases h : 0 ≤ x.n
          · simp [a_code_number, h5, h, numOk, within]; exact .free rfl
          · simp [a_code_number, h5, h, numOk, within]; exact .free rfl
        · by_cases h7 : w.n = 7
          · by_cases h : 0 ≤ x.n
            · simp [a_code_number, h7, h, numOk, within]; exact .free rfl
            · simp [a_code_number, h7, h, numOk, within]; exact .free rfl
          · by_cases h6 : w.n = 6
            · by_cases h : 0 ≤ x.n
              · by_cases hl : x.n < p.funs.length
                · obtain ⟨g, hg⟩ : ∃ g, p.funs[x.n.toNat]? = some g := ⟨p.funs[x.n.toNat]'(by omega), by simp [show x.n.toNat < p.funs.length by omega]⟩
                  have hge := (List.getElem?_eq_some_iff.1 hg).2
                  have hq := aindex_sl (k := p.fk) (sz := 5) h (funCells_at hg)
                  by_cases ht : g.thread = true
                  · simp [a_code_number, h6, h, hl, hge, hq, ht, intCells_len, numOk, within]; exact .free rfl
                  · simp [a_code_number, h6, h, hl, hge, hq, ht, intCells_len, numOk, within]; exact .free rfl
                · simp [a_code_number, h6, h, hl, numOk, within]; exact .free rfl
              · simp [a_code_number, h6, h, numOk, within]; exact .free rfl
            · simp [a_code_number, h2, h3, h4, h5, h6, h7, numOk]; exact .free rfl

end Go.Proofs.YtefejpckppabpaaGreatDoor
