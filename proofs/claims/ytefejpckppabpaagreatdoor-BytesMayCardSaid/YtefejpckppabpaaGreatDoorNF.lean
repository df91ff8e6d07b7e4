/- code: which Funs and programs may be; which Funs are Threads. -/
import Derived.Test.YtefejpckppabpaaGreatDoorNE
namespace Go.Proofs.YtefejpckppabpaaGreatDoor
set_option linter.unusedSimpArgs false
set_option linter.unusedVariables false
open Go Go.Fw

theorem Ins.c0v (x : Ins) (H : AHeap) : aload H false 1 (.ip x.cells 0) = some (u8 x.op) := rfl

/-- What a program must be to be asked. -/
structure PrgV.Fit (p : PrgV) : Prop where
  tot : p.mems.length + p.locks.length + p.funs.length ≤ 1000000000
  names : ∀ s ∈ p.names, s.size ≤ 9223372036854775807
  cl : ∀ f ∈ p.funs, f.code.length ≤ 9223372036854775807
  ins : ∀ f ∈ p.funs, ∀ x ∈ f.code, x.Ok ∧ x.args.length ≤ 999999999990

def lastB (f : FunV) : Bool := match f.code.getLast? with
  | some x => decide (x.op = 11 ∨ x.op = 13)
  | none => false
def funB (p : PrgV) (f : FunV) : Bool :=
  decide (0 ≤ f.params ∧ f.params ≤ 8 ∧ ¬ (f.thread = true ∧ 0 < f.params) ∧ f.params ≤ f.regs ∧ f.regs ≤ 4096 ∧ 1 ≤ f.code.length ∧ f.code.length ≤ 16384) && (lastB f && f.code.all (mayB p f))

theorem codeCells_at' {l : List Ins} {i : Nat} {x : List AV} (h : (codeCells l)[i]? = some x) : ∃ y, l[i]? = some y ∧ x = y.cells := by
  simp only [codeCells, List.getElem?_map, Option.map_eq_some_iff] at h
  obtain ⟨y, h1, rfl⟩ := h
  exact ⟨y, h1, rfl⟩

theorem p_mayFun_1 {p : PrgV} {f : FunV} {x : Ins} (hx : x.Ok) (hl : x.args.length ≤ 999999999990) : PCall Tryz.prog 78 [.agg x.cells, .ip p.cells 0, .ip f.cells 0] (bl (!mayB p f x)) := by
  refine PCall.of fun N => acall mixed c_code_mayFun_1 (by simp) ?_
  simp [a_code_mayFun_1]
  refine (p_mayIns (p := p) (f := f) hx hl).acall ?_
  simp
  exact .free rfl

theorem any_not {α : Type} (l : List α) (g : α → Bool) : (l.map fun x => !g x).any id = !l.all g := by
  induction l with
  | nil => rfl
  | cons a l ih =>
    simp only [List.map_cons, List.any_cons, List.all_cons] at ih ⊢
    rw [ih]
    simp

theorem p_mayFun {p : PrgV} {f : FunV} (hcl : f.code.length ≤ 9223372036854775807) (hi : ∀ x ∈ f.code, x.Ok ∧ x.args.length ≤ 999999999990) : PCall Tryz.prog 57 [.agg p.cells, .agg f.cells] (bl (funB p f)) := by
  refine PCall.of fun N => acall mixed c_code_mayFun (by simp) ?_
  obtain ⟨B, hB⟩ : ∃ B, funB p f = B := ⟨_, rfl⟩
  rw [hB]
  have no : ¬ (0 ≤ f.params ∧ f.params ≤ 8 ∧ ¬ (f.thread = true ∧ 0 < f.params) ∧ f.params ≤ f.regs ∧ f.regs ≤ 4096 ∧ 1 ≤ f.code.length ∧ f.code.length ≤ 16384) → B = false := fun h => by rw [← hB]; simp only [funB, h, decide_false, Bool.false_and]
  by_cases c1 : f.params < 0
  · have := no (by omega)
    simp [a_code_mayFun, c1, this]; exact .free rfl
  by_cases c2 : 8 < f.params
  · have := no (by omega)
    simp [a_code_mayFun, c1, c2, this]; exact .free rfl
  by_cases c3 : f.thread = true ∧ 0 < f.params
  · have := no (by intro h; exact h.2.2.1 c3)
    simp [a_code_mayFun, c1, c2, c3.1, c3.2, this]; exact .free rfl
  have d3 : f.thread = false ∨ ¬ 0 < f.params := by
    by_cases h : f.thread = true
    · exact .inr fun h2 => c3 ⟨h, h2⟩
    · exact .inl (by simpa using h)
  have key : ∀ (c4 : ¬ f.regs < f.params) (c5 : ¬ (4096 < f.regs)) (c6 : 1 ≤ f.code.length) (c7 : f.code.length ≤ 16384), B = (lastB f && f.code.all (mayB p f)) := fun c4 c5 c6 c7 => by
    rw [← hB]
    have : (0 ≤ f.params ∧ f.params ≤ 8 ∧ ¬ (f.thread = true ∧ 0 < f.params) ∧ f.params ≤ f.regs ∧ f.regs ≤ 4096 ∧ 1 ≤ f.code.length ∧ f.code.length ≤ 16384) := ⟨by omega, by omega, c3, by omega, by omega, c6, c7⟩
    simp only [funB, this, not_false_eq_true, and_self, decide_true, Bool.true_and]
  have rest : ∀ (th : Bool), f.thread = th → (th = true → ¬ 0 < f.params) → run Tryz.prog a_code_mayFun [] (fin [.tmp 4] fun r' H' x => View H' r' (bl B)) ⟨argA [.agg p.cells, .agg f.cells], noHeap, N⟩ := fun th hth hd => by
    by_cases c4 : f.regs < f.params
    · have := no (by omega)
      cases th with
      | false => simp [a_code_mayFun, c1, c2, hth, c4, this]; exact .free rfl
      | true => simp [a_code_mayFun, c1, c2, hth, hd rfl, c4, this]; exact .free rfl
    by_cases c5 : 4096 < f.regs
    · have := no (by omega)
      cases th with
      | false => simp [a_code_mayFun, c1, c2, hth, c4, c5, this]; exact .free rfl
      | true => simp [a_code_mayFun, c1, c2, hth, hd rfl, c4, c5, this]; exact .free rfl
    by_cases c6 : (f.code.length : Int) < 1
    · have := no (by omega)
      cases th with
      | false => simp [a_code_mayFun, c1, c2, hth, c4, c5, c6, this]; exact .free rfl
      | true => simp [a_code_mayFun, c1, c2, hth, hd rfl, c4, c5, c6, this]; exact .free rfl
    by_cases c7 : (16384 : Int) < f.code.length
    · have := no (by omega)
      cases th with
      | false => simp [a_code_mayFun, c1, c2, hth, c4, c5, c6, c7, this]; exact .free rfl
      | true => simp [a_code_mayFun, c1, c2, hth, hd rfl, c4, c5, c6, c7, this]; exact .free rfl
    have hkey := key c4 c5 (by omega) (by omega)
    have hlt : f.code.length - 1 < f.code.length := by omega
    obtain ⟨x, hx⟩ : ∃ x, f.code[f.code.length - 1] = x := ⟨_, rfl⟩
    have hlast : lastB f = decide (x.op = 11 ∨ x.op = 13) := by
      have : f.code.getLast? = some x := by rw [List.getLast?_eq_getElem?, List.getElem?_eq_getElem hlt, hx]
      simp only [lastB, this]
    have hix : aindex 6 (.sl f.k 6 (codeCells f.code)) (i64 ((f.code.length : Int) - 1)) = some (.ip x.cells 0) := by
      refine aindex_sl (by omega) ?_
      have : ((f.code.length : Int) - 1).toNat = f.code.length - 1 := by omega
      rw [this]
      exact codeCells_at (by rw [List.getElem?_eq_getElem hlt, hx])
    have hw : IntKind.i64.wrap ((f.code.length : Int) - 1) = (f.code.length : Int) - 1 := wrap_i64 (by omega) (by omega)
    have hco : ∀ (H : AHeap) (N : Nat), ACall Tryz.prog 77 [.sl f.k 6 (codeCells f.code), .fn (.func 78) [] [.ip p.cells 0, .ip f.cells 0]] H N (fun r H' N' => r = bl (!f.code.all (mayB p f)) ∧ H' = H ∧ N' = N) := fun H N => by
      rw [← any_not]
      refine p_ContainsFunc_Ins (.sl _) (codeCells_sz _) (by simp) (by rw [codeCells_len]; exact hcl) (fun i y b hy hb => ?_) N
      obtain ⟨z, hz, rfl⟩ := codeCells_at' hy
      simp only [List.getElem?_map, Option.map_eq_some_iff] at hb
      obtain ⟨z', hz', rfl⟩ := hb
      obtain rfl : z = z' := Option.some.inj (hz.symm.trans hz')
      obtain ⟨k1, k2⟩ := hi z (List.mem_of_getElem? hz)
      exact p_mayFun_1 k1 k2
    by_cases o1 : x.op = 11
    · have hl : lastB f = true := by rw [hlast]; simp [o1]
      rw [hl, Bool.true_and] at hkey
      cases th with
      | false =>
        simp [a_code_mayFun, c1, c2, hth, c4, c5, c6, c7, hw, hix, Ins.c0v, o1]
        refine (hco _ _).mono ?_
        rintro r H1 N1 ⟨rfl, rfl, rfl⟩
        simp [← hkey]
        exact .free rfl
      | true =>
        simp [a_code_mayFun, c1, c2, hth, hd rfl, c4, c5, c6, c7, hw, hix, Ins.c0v, o1]
        refine (hco _ _).mono ?_
        rintro r H1 N1 ⟨rfl, rfl, rfl⟩
        simp [← hkey]
        exact .free rfl
    · by_cases o2 : x.op = 13
      · have hl : lastB f = true := by rw [hlast]; simp [o2]
        rw [hl, Bool.true_and] at hkey
        cases th with
        | false =>
          simp [a_code_mayFun, c1, c2, hth, c4, c5, c6, c7, hw, hix, Ins.c0v, o1, o2]
          refine (hco _ _).mono ?_
          rintro r H1 N1 ⟨rfl, rfl, rfl⟩
          simp [← hkey]
          exact .free rfl
        | true =>
          simp [a_code_mayFun, c1, c2, hth, hd rfl, c4, c5, c6, c7, hw, hix, Ins.c0v, o1, o2]
          refine (hco _ _).mono ?_
          rintro r H1 N1 ⟨rfl, rfl, rfl⟩
          simp [← hkey]
          exact .free rfl
      · have hl : lastB f = false := by rw [hlast]; simp [o1, o2]
        rw [hl, Bool.false_and] at hkey
        cases th with
        | false => simp [a_code_mayFun, c1, c2, hth, c4, c5, c6, c7, hw, hix, Ins.c0v, o1, o2, hkey]; exact .free rfl
        | true => simp [a_code_mayFun, c1, c2, hth, hd rfl, c4, c5, c6, c7, hw, hix, Ins.c0v, o1, o2, hkey]; exact .free rfl
  exact rest f.thread rfl (fun h => d3.resolve_left (by simp [h]))

/-- The numbers of the Funs that are Threads. -/
def thrL (l : List FunV) : List Int := (l.zipIdx.filter fun x => x.1.thread).map fun x => (x.2 : Int)
theorem thrL_next {l : List FunV} {j : Nat} (h : j < l.length) : thrL (l.take (j + 1)) = if l[j].thread = true then thrL (l.take j) ++ [(j : Int)] else thrL (l.take j) := by
  unfold thrL
  rw [take_next h, List.zipIdx_append, List.filter_append, List.map_append]
  have hl : (l.take j).length = j := by simp; omega
  cases ht : l[j].thread <;> simp [ht, hl]
theorem thrL_len (l : List FunV) : (thrL l).length ≤ l.length := by
  unfold thrL
  rw [List.length_map]
  have := List.length_filter_le (fun x : FunV × Nat => x.1.thread) l.zipIdx
  simpa using this

theorem p_Threads {p : PrgV} (hl : p.funs.length ≤ 1000000000) (H : AHeap) (N : Nat) : ACall Tryz.prog 52 [.agg p.cells] H N (fun r H' N' => N ≤ N' ∧ (∀ j, j < N → H' j = H j) ∧ Built H' N 1 (.sl .nil 0 []) (intCells (thrL p.funs)) r) := by
  refine acallF mixed c_code_Threads (by simp) fun hF => ?_
  simp [a_code_Threads]
  refine run_loop (fun m s => ∃ j v, j ≤ p.funs.length ∧ m = p.funs.length - j ∧ s.A 3 = v ∧ s.A 7 = .sl p.fk 5 (funCells p.funs) ∧ s.A 8 = i64 p.funs.length ∧ s.A 9 = i64 j ∧ N ≤ s.N ∧ (∀ j, j < N → s.H j = H j) ∧ Fresh s.H s.N ∧ Built s.H N 1 (.sl .nil 0 []) (intCells (thrL (p.funs.take j))) v) p.funs.length ?_ ?_
  · exact ⟨0, .sl .nil 0 [], by omega, by omega, by simp, by simp, by simp, by simp, by simp, fun _ _ => rfl, hF, .nil⟩
  · rintro m A1 H1 N1 ⟨j, v, hj, rfl, e3, e7, e8, e9, hN1, hold, hF1, hB⟩
    simp only at e3 e7 e8 e9 hN1 hold hF1 hB
    by_cases hjl : j = p.funs.length
    · subst hjl
      rw [List.take_length] at hB
      simp [a_code_Threadsb1, e3, e8, e9]
      exact ⟨hN1, hold, hB⟩
    · have hlt : j < p.funs.length := by omega
      obtain ⟨x, hx⟩ : ∃ x, p.funs[j] = x := ⟨_, rfl⟩
      have hix : aindex 5 (.sl p.fk 5 (funCells p.funs)) (i64 j) = some (.ip x.cells 0) := aindex_sl (by omega) (by simp [funCells, hlt, hx])
      have hsp : splice 0 x.cells [AV.lit (Value.string ⟨#[]⟩), AV.lit (Value.bool false), AV.lit (Value.int .i64 0), AV.lit (Value.int .i64 0), AV.sl .nil 0 []] = x.cells := splice_full (by simp)
      have hnx := thrL_next hlt
      rw [hx] at hnx
      have hB1 := built_after hB hF1 (H' := H1.set N1 (.blk x.cells)) (fun j hj => by simp only [AHeap.set]; rw [if_neg (by omega)])
      have hlen := thrL_len (p.funs.take j)
      rw [List.length_take] at hlen
      by_cases ht : x.thread = true
      · rw [if_pos ht] at hnx
        obtain ⟨v', H', N', happ, hB', ho', hN', hF'⟩ := hB1.push (bytes := 8) (k := .exact) (x := [i64 j]) (hF1.set _) (by omega) rfl (by rw [intCells_len]; unfold lim; omega) (by rw [intCells_len]; omega)
        have hB2 : Built H' N 1 (.sl .nil 0 []) (intCells (thrL (p.funs.take (j + 1)))) v' := by rw [hnx, intCells_app]; exact hB'
        simp [a_code_Threadsb1, e3, e7, e8, e9, hlt, hix, hsp, ht, happ]
        exact ⟨p.funs.length - (j + 1), by omega, j + 1, by omega, rfl, by rw [wrap_i64 (by omega) (by omega)]; rfl, by omega, fun i hi => by rw [ho' i hi]; simp only [AHeap.set]; rw [if_neg (by omega)]; exact hold i hi, hF', hB2⟩
      · rw [if_neg ht] at hnx
        rw [← hnx] at hB1
        simp [a_code_Threadsb1, e3, e7, e8, e9, hlt, hix, hsp, ht]
        exact ⟨p.funs.length - (j + 1), by omega, j + 1, by omega, rfl, by rw [wrap_i64 (by omega) (by omega)]; rfl, by omega, fun i hi => (by rw [if_neg (by omega)]; exact hold i hi), hF1.set _, hB1⟩

def memB (m : MemV) : Bool := decide (1 ≤ m.size ∧ m.size ≤ 1024)

theorem p_May_1 (m : MemV) : PCall Tryz.prog 54 [.agg m.cells] (bl (!memB m)) := by
  refine PCall.of fun N => acall mixed c_code_May_1 (by simp) ?_
  by_cases h1 : m.size < 1
  · have : memB m = false := by simp [memB]; omega
    simp [a_code_May_1, MemV.cells, h1, this]; exact .free rfl
  · by_cases h2 : 1024 < m.size
    · have : memB m = false := by simp [memB]; omega
      simp [a_code_May_1, MemV.cells, h1, h2, this]; exact .free rfl
    · have : memB m = true := by simp [memB]; omega
      simp [a_code_May_1, MemV.cells, h1, h2, this]; exact .free rfl

theorem p_May_2 {p : PrgV} {f : FunV} (hcl : f.code.length ≤ 9223372036854775807) (hi : ∀ x ∈ f.code, x.Ok ∧ x.args.length ≤ 999999999990) : PCall Tryz.prog 56 [.agg f.cells, .ip p.cells 0] (bl (!funB p f)) := by
  refine PCall.of fun N => acall mixed c_code_May_2 (by simp) ?_
  simp [a_code_May_2]
  refine (p_mayFun (p := p) hcl hi).acall ?_
  simp
  exact .free rfl

/-- Whether a program may be. -/
def prgB (p : PrgV) : Bool := namedB p.names && (decide ((thrL p.funs).length ≤ 16) && (p.mems.all memB && p.funs.all (funB p)))

theorem p_May {p : PrgV} (hp : p.Fit) : PCall Tryz.prog 20 [.agg p.cells] (bl (prgB p)) := by
  have ht := hp.tot
  refine PCall.of fun N => acall mixed c_code_May (by simp) ?_
  simp [a_code_May]
  refine (p_named (by omega) hp.names).acall ?_
  by_cases hn : namedB p.names = true
  · simp [hn]
    refine (p_Threads (by omega) _ _).mono ?_
    rintro r H1 N1 ⟨_, _, hB⟩
    have hlen := hB.rd.len
    rw [intCells_len] at hlen
    by_cases h16 : (16 : Int) < (thrL p.funs).length
    · have : prgB p = false := by simp [prgB]; intro _ h; omega
      simp [hlen, -alen, h16, this]
      exact .free rfl
    · simp [hlen, -alen, h16]
      have hm : ACall Tryz.prog 53 [.sl p.mmk 3 (memCells p.mems), .fn (.func 54) [] []] H1 N1 (fun r H' N' => r = bl (!p.mems.all memB) ∧ H' = H1 ∧ N' = N1) := by
        rw [← any_not]
        refine p_ContainsFunc_Mem (.sl _) (memCells_sz _) (by simp) (by rw [memCells_len]; have hm : maxLen = 9223372036854775807 := rfl; omega) (fun i y b hy hb => ?_) _
        simp only [memCells, List.getElem?_map, Option.map_eq_some_iff] at hy hb
        obtain ⟨z, hz, rfl⟩ := hy
        obtain ⟨z', hz', rfl⟩ := hb
        obtain rfl : z = z' := Option.some.inj (hz.symm.trans hz')
        exact p_May_1 z
      refine hm.mono ?_
      rintro r H2 N2 ⟨rfl, rfl, rfl⟩
      by_cases hmm : p.mems.all memB = true
      · rw [hmm]
        simp
        have hf : ACall Tryz.prog 55 [.sl p.fk 5 (funCells p.funs), .fn (.func 56) [] [.ip p.cells 0]] H2 N2 (fun r H' N' => r = bl (!p.funs.all (funB p)) ∧ H' = H2 ∧ N' = N2) := by
          rw [← any_not]
          refine p_ContainsFunc_Fun (.sl _) (funCells_sz _) (by simp) (by rw [funCells_len]; have hm : maxLen = 9223372036854775807 := rfl; omega) (fun i y b hy hb => ?_) _
          simp only [funCells, List.getElem?_map, Option.map_eq_some_iff] at hy hb
          obtain ⟨z, hz, rfl⟩ := hy
          obtain ⟨z', hz', rfl⟩ := hb
          obtain rfl : z = z' := Option.some.inj (hz.symm.trans hz')
          exact p_May_2 (hp.cl z (List.mem_of_getElem? hz)) (hp.ins z (List.mem_of_getElem? hz))
        refine hf.mono ?_
        rintro r H3 N3 ⟨rfl, rfl, rfl⟩
        have : prgB p = p.funs.all (funB p) := by
          unfold prgB
          rw [hn, hmm, decide_eq_true (by omega), Bool.true_and, Bool.true_and, Bool.true_and]
        rw [this]
        generalize p.funs.all (funB p) = q
        simp
        exact .free rfl
      · have hmf : p.mems.all memB = false := by simpa using hmm
        have : prgB p = false := by
          unfold prgB
          rw [hmf]
          simp
        rw [hmf]
        simp [this]
        exact .free rfl
  · have : prgB p = false := by simp [prgB, hn]
    simp [hn, this]
    exact .free rfl
end Go.Proofs.YtefejpckppabpaaGreatDoor
