/- code: the examples that each statement asks first. -/
import Derived.Test.YtanpcmkhhpaeiaaDoorNN
namespace Go.Proofs.YtanpcmkhhpaeiaaDoor
set_option linter.unusedSimpArgs false
set_option linter.unusedVariables false
open Go Go.Fw

theorem codeCells_free (l : List Ins) : freeLL (codeCells l) = true := freeLL_map _ l fun x _ => x.freeC
theorem FunV.freeC (f : FunV) : freeL f.cells = true := by
  show freeL [_, _, _, _, .sl f.k 6 (codeCells f.code)] = true
  simp [freeL, AV.free, codeCells_free]
theorem funCells_free (l : List FunV) : freeLL (funCells l) = true := freeLL_map _ l fun x _ => x.freeC
theorem memCells_free (l : List MemV) : freeLL (memCells l) = true := freeLL_map _ l fun x _ => by simp [MemV.cells, freeL, AV.free]
theorem lockCells_free (l : List ByteArray) : freeLL (lockCells l) = true := freeLL_map _ l fun x _ => by simp [freeL, AV.free]
theorem PrgV.freeC (p : PrgV) : freeL p.cells = true := by simp [PrgV.cells, freeL, AV.free, funCells_free, memCells_free, lockCells_free]

def bare13 : Ins := ⟨13, 0, 0, 0, 0, .nil, 0, []⟩
def oneP (regs : Int) (k : SK) (l : List Ins) : PrgV := ⟨.exact, .exact, .exact, [⟨⟨#[109]⟩, 2, 0⟩], [⟨#[108]⟩], [⟨⟨#[116]⟩, true, 0, regs, k, l⟩, ⟨⟨#[102]⟩, false, 2, 2, .exact, [bare13]⟩]⟩

theorem p_one {regs : Int} {k : SK} {l : List Ins} : PCall Tryd.prog 19 [i64 regs, .sl k 6 (codeCells l)] (.agg (oneP regs k l).cells) := by
  refine PCall.of fun N => acall mixed c_bobbinlaw07_one (by simp) ?_
  simp [a_bobbinlaw07_one, splice]
  exact .free (PrgV.freeC (oneP regs k l))

def setI : Ins := ⟨1, 0, 0, 0, 0, .nil, 0, []⟩
theorem oneP_fit {regs : Int} {k : SK} {l : List Ins} (h : l.length ≤ 100) (hx : ∀ x ∈ l, x.Ok ∧ x.args.length ≤ 999999999990) : (oneP regs k l).Fit where
  tot := by show 1 + 1 + 2 ≤ 1000000000; omega
  names := fun s hs => by
    have : s ∈ [(⟨#[109]⟩ : ByteArray), ⟨#[108]⟩, ⟨#[116]⟩, ⟨#[102]⟩] := hs
    simp only [List.mem_cons, List.not_mem_nil, or_false] at this
    rcases this with rfl | rfl | rfl | rfl <;> decide
  cl := fun f hf => by
    simp only [oneP, List.mem_cons, List.not_mem_nil, or_false] at hf
    rcases hf with rfl | rfl
    · simp only; omega
    · decide
  ins := fun f hf x hx' => by
    simp only [oneP, List.mem_cons, List.not_mem_nil, or_false] at hf
    rcases hf with rfl | rfl
    · exact hx x hx'
    · simp only [List.mem_cons, List.not_mem_nil, or_false] at hx'
      subst hx'
      exact ⟨⟨by decide, by decide, by decide, .inr rfl⟩, by decide⟩

theorem ok2 {x y : Ins} (hx : x.Ok ∧ x.args.length ≤ 999999999990) (hy : y.Ok ∧ y.args.length ≤ 999999999990) : ∀ z ∈ [x, y], z.Ok ∧ z.args.length ≤ 999999999990 := by
  intro z hz
  simp only [List.mem_cons, List.not_mem_nil, or_false] at hz
  rcases hz with rfl | rfl <;> assumption
theorem ok0 {op r a b n : Int} (h0 : 0 ≤ op) (h1 : op < 256) : (⟨op, r, a, b, n, .nil, 0, []⟩ : Ins).Ok ∧ (⟨op, r, a, b, n, .nil, 0, []⟩ : Ins).args.length ≤ 999999999990 := ⟨⟨h0, h1, by show 0 ≤ maxLen; exact Nat.zero_le _, .inr rfl⟩, by show 0 ≤ 999999999990; omega⟩
def jmpI : Ins := ⟨12, 0, 0, 0, 0, .nil, 0, []⟩
def lodI : Ins := ⟨5, 0, 0, 1, 0, .nil, 0, []⟩
theorem one1 : prgB (oneP 1 .exact [setI, bare13]) = true := by kernel_rfl
theorem one2 : prgB (oneP 0 .exact [setI, bare13]) = false := by kernel_rfl
theorem one3 : prgB (oneP 1 .exact [setI, jmpI]) = false := by kernel_rfl
theorem one4 : prgB (oneP 2 .exact [lodI, bare13]) = false := by kernel_rfl
theorem box_keep {H H1 : AHeap} {N N' : Nat} {o : AObj} (h : H N = some o) (hk : ∀ j, j < N' → H1 j = H j) (hN : N < N') : H1 N = some o := (hk N hN).trans h

section
variable {A : Nat → AV} {H : AHeap} {N o1 o2 : Nat} {fs : List Fr} {Q : Post} {v : AV}
theorem works_e (h1 : A 1 = .mp o1 0) (h2 : A 2 = .mp o2 0) (h3 : A 3 = v) (h4 : A 4 = i64 5) (h5 : A 5 = bl true) (b0 : H o1 = some (.blk bare13.cells)) (b1 : H o2 = some (.blk setI.cells))
    (hB : RdSl H 1 (intCells [3]) v) (hk : ∀ A', A' 0 = bl true → onward Tryd.prog fs Q .normal ⟨A', H, N⟩) : run Tryd.prog a_works_e fs Q ⟨A, H, N⟩ := by
  simp only [setI, bare13, Ins.cells, intCells, List.map] at b0 b1
  simp [a_works_e, h1, h2, h3, h4, h5, b0, b1, splice, setI, bare13, lodI, jmpI, Ins.cells, intCells]
  refine (p_one (regs := 1) (k := .exact) (l := [setI, bare13])).acall ?_
  simp
  refine (p_May (oneP_fit (regs := 1) (k := .exact) (l := [setI, bare13]) (by decide) (ok2 (ok0 (by decide) (by decide)) (ok0 (by decide) (by decide))))).acall ?_
  rw [one1]
  simp [h1, h2, h3, h4, h5, b0, b1, splice, setI, bare13, lodI, jmpI, Ins.cells, intCells]
  refine (p_one (regs := 0) (k := .exact) (l := [setI, bare13])).acall ?_
  simp
  refine (p_May (oneP_fit (regs := 0) (k := .exact) (l := [setI, bare13]) (by decide) (ok2 (ok0 (by decide) (by decide)) (ok0 (by decide) (by decide))))).acall ?_
  rw [one2]
  simp [h1, h2, h3, h4, h5, b0, b1, splice, setI, bare13, lodI, jmpI, Ins.cells, intCells]
  refine (p_one (regs := 1) (k := .exact) (l := [setI, jmpI])).acall ?_
  simp
  refine (p_May (oneP_fit (regs := 1) (k := .exact) (l := [setI, jmpI]) (by decide) (ok2 (ok0 (by decide) (by decide)) (ok0 (by decide) (by decide))))).acall ?_
  rw [one3]
  simp [h1, h2, h3, h4, h5, b0, b1, splice, setI, bare13, lodI, jmpI, Ins.cells, intCells]
  refine (p_one (regs := 2) (k := .exact) (l := [lodI, bare13])).acall ?_
  simp
  refine (p_May (oneP_fit (regs := 2) (k := .exact) (l := [lodI, bare13]) (by decide) (ok2 (ok0 (by decide) (by decide)) (ok0 (by decide) (by decide))))).acall ?_
  rw [one4]
  simp [h1, h2, h3, h4, h5, b0, b1, splice, setI, bare13, lodI, jmpI, Ins.cells, intCells]
  refine (p_ints (la := [3]) (lb := [3]) hB (.inl ⟨.exact, 1, rfl, .inl rfl⟩) (by decide) N).mono ?_
  rintro r H8 N8 ⟨rfl, rfl, rfl⟩
  simp [h4, h5]
  exact hk _ (by simp)
end

theorem p_works : PCall Tryd.prog 8 [] (bl true) := by
  refine PCall.of fun N => acallF mixed c_bobbinlaw07_works (by simp) fun hF => ?_
  unfold a_bobbinlaw07_works
  obtain ⟨_, ee⟩ : ∃ c, a_works_e = c := ⟨_, rfl⟩
  rw [ee]
  simp [splice]
  refine (p_Reads (x := ⟨6, 0, -1, 3, 0, .nil, 0, []⟩) ⟨by decide, by decide, by decide, .inr rfl⟩ (by decide) _ _).monoF ?_
  rintro v1 H1 N1 ⟨hN1, hk1, hB1⟩ hF1 _
  have hr : readsL ⟨6, 0, -1, 3, 0, .nil, 0, []⟩ = [3] := by kernel_rfl
  rw [hr] at hB1
  have b0 : H1 N = some (.blk bare13.cells) := (hk1 N (by omega)).trans (by simp [AHeap.set, bare13, Ins.cells, intCells, u8, i64])
  have b1 : H1 (N + 1) = some (.blk setI.cells) := (hk1 (N + 1) (by omega)).trans (by simp [AHeap.set, setI, Ins.cells, intCells, u8, i64])
  simp
  refine (p_Goal ⟨12, 0, 0, 0, 5, .nil, 0, []⟩ ⟨by decide, by decide, by decide, .inr rfl⟩).acall ?_
  have hg : (ofR 12).n = 7 := by kernel_rfl
  simp [hg]
  rw [← ee]
  refine works_e (o1 := N) (o2 := N + 1) (v := v1) (by simp) (by simp) (by simp) (by simp) (by simp) b0 b1 hB1.rd fun A' h0 => ?_
  simp [h0]
  exact .free rfl
end Go.Proofs.YtanpcmkhhpaeiaaDoor
