/- code: which programs are the same. -/
import Derived.Test.YtefejpckppabpaaGreatDoorNI
import Derived.Test.YtefejpckppabpaaGreatDoorCB
namespace Go.Proofs.YtefejpckppabpaaGreatDoor
set_option linter.unusedSimpArgs false
set_option linter.unusedVariables false
open Go Go.Fw

/-- Two lists, element by element. -/
def eqvL {α : Type} (r : α → α → Bool) (l m : List α) : Bool := decide (l.length = m.length) && (l.zip m).all fun p => r p.1 p.2

theorem eqvL_iff {α : Type} {r : α → α → Bool} {l m : List α} : eqvL r l m = true ↔ l.length = m.length ∧ ∀ i (h : i < l.length) (h2 : i < m.length), r l[i] m[i] = true := by
  unfold eqvL
  rw [Bool.and_eq_true, decide_eq_true_eq, List.all_eq_true]
  refine and_congr_right fun hl => ⟨fun h i hi hi2 => ?_, fun h p hp => ?_⟩
  · have : (l.zip m)[i]'(by simp; omega) = (l[i], m[i]) := List.getElem_zip
    have h3 := h _ (List.getElem_mem (l := l.zip m) (n := i) (by simp; omega))
    rw [this] at h3
    exact h3
  · obtain ⟨i, hi, rfl⟩ := List.getElem_of_mem hp
    rw [List.getElem_zip]
    simp at hi
    exact h i (by omega) (by omega)
theorem eqvL_len {α : Type} {r : α → α → Bool} {l m : List α} (h : l.length ≠ m.length) : eqvL r l m = false := by simp [eqvL, h]
theorem eqvL_bad {α : Type} {r : α → α → Bool} {l m : List α} {i : Nat} (h : i < l.length) (h2 : i < m.length) (hb : r l[i] m[i] = false) : eqvL r l m = false := by
  cases hq : eqvL r l m with
  | false => rfl
  | true => rw [(eqvL_iff.1 hq).2 i h h2] at hb; cases hb

def memE (x y : MemV) : Bool := decide (x.name = y.name ∧ x.size = y.size ∧ x.first = y.first)
theorem memE_eqs (x y : MemV) : eqsV [(0, 1), (1, 0), (2, 0)] (.agg x.cells) (.agg y.cells) = some (memE x y) := by
  have hb : ∀ a b : ByteArray, (a == b) = decide (a = b) := fun a b => by
    by_cases h : a = b
    · rw [decide_eq_true h]; exact (MapKept.bytes_beq a b).2 h
    · rw [decide_eq_false h]
      cases hq : a == b with
      | false => rfl
      | true => exact absurd ((MapKept.bytes_beq a b).1 hq) h
  by_cases h1 : x.name = y.name
  · by_cases h2 : x.size = y.size
    · by_cases h3 : x.first = y.first
      · simp [eqsV, aeqs, MemV.cells, akind, keq, hb, memE, h1, h2, h3]
      · have h4 : (x.first == y.first) = false := by simpa using h3
        simp [eqsV, aeqs, MemV.cells, akind, keq, hb, memE, h1, h2, h3, h4]
    · have h4 : (x.size == y.size) = false := by simpa using h2
      simp [eqsV, aeqs, MemV.cells, akind, keq, hb, memE, h1, h2, h4]
  · simp [eqsV, aeqs, MemV.cells, akind, keq, hb, memE, h1]
def strE (x y : ByteArray) : Bool := decide (x = y)

theorem p_Equal_Mem {H : AHeap} {a b : AV} {la lb : List MemV} (ha : RdSl H 3 (memCells la) a) (hb : RdSl H 3 (memCells lb) b) (hl : la.length ≤ maxLen) (N : Nat) :
    ACall Tryz.prog 30 [a, b] H N (fun r H' N' => r = bl (eqvL memE la lb) ∧ H' = H ∧ N' = N) := by
  have hm : maxLen = 9223372036854775807 := rfl
  refine acall mixed c_slices_Equal_api_Mem_api_Mem (by simp) ?_
  have hla := ha.len
  have hlb := hb.len
  rw [memCells_len] at hla hlb
  by_cases hll : la.length = lb.length
  · simp [a_slices_Equal_api_Mem_api_Mem, hla, hlb, hll, -alen]
    refine run_loop (fun m s => ∃ j, j ≤ la.length ∧ m = la.length - j ∧ s.A 0 = a ∧ s.A 1 = b ∧ s.A 12 = i64 la.length ∧ s.A 13 = i64 j ∧ s.H = H ∧ s.N = N ∧ ∀ i (h : i < la.length) (h2 : i < lb.length), i < j → memE la[i] lb[i] = true) la.length ?_ ?_
    · exact ⟨0, by omega, by omega, by simp, by simp, by simp [hll], by simp, by simp, by simp, fun i _ _ hi => by omega⟩
    · rintro m A H1 N1 ⟨j, hj, rfl, h0, h1, h12, h13, rfl, rfl, hok⟩
      simp only at h0 h1 h12 h13
      by_cases hjl : j = la.length
      · subst hjl
        have : eqvL memE la lb = true := eqvL_iff.2 ⟨hll, fun i h h2 => hok i h h2 h⟩
        simp [a_slices_Equal_api_Mem_api_Memb1, h12, h13, this]
      · have hlt : j < la.length := by omega
        have hlt2 : j < lb.length := by omega
        obtain ⟨p, hp, pp⟩ := ha.at (memCells_sz la) (by simp [memCells, hlt] : (memCells la)[j]? = some la[j].cells)
        obtain ⟨q, hq, qq⟩ := hb.at (memCells_sz lb) (by simp [memCells, hlt2] : (memCells lb)[j]? = some lb[j].cells)
        have lp : aload H1 true 3 p = some (.agg la[j].cells) := pp.load
        have lq : aload H1 true 3 q = some (.agg lb[j].cells) := qq.load
        have he := memE_eqs la[j] lb[j]
        by_cases hv : memE la[j] lb[j] = true
        · simp [a_slices_Equal_api_Mem_api_Memb1, h0, h1, h12, h13, hlt, hp, hq, lp, lq, he, hv, -aload, -eqsV]
          refine ⟨la.length - (j + 1), by omega, j + 1, by omega, rfl, by rw [wrap_i64 (by omega) (by omega)]; rfl, fun i h h2 hij => ?_⟩
          by_cases hij2 : i = j
          · subst hij2; exact hv
          · exact hok i h h2 (by omega)
        · have hvf : memE la[j] lb[j] = false := by simpa using hv
          have : eqvL memE la lb = false := eqvL_bad hlt hlt2 hvf
          simp [a_slices_Equal_api_Mem_api_Memb1, h0, h1, h12, h13, hlt, hp, hq, lp, lq, he, hvf, this, -aload, -eqsV]
  · have : eqvL memE la lb = false := eqvL_len hll
    simp [a_slices_Equal_api_Mem_api_Mem, hla, hlb, show ¬ ((la.length : Int) = lb.length) by omega, this, -alen]

theorem p_Equal_string {H : AHeap} {a b : AV} {la lb : List ByteArray} (ha : RdSl H 1 (strCells la) a) (hb : RdSl H 1 (strCells lb) b) (hl : la.length ≤ maxLen) (N : Nat) :
    ACall Tryz.prog 31 [a, b] H N (fun r H' N' => r = bl (eqvL strE la lb) ∧ H' = H ∧ N' = N) := by
  have hm : maxLen = 9223372036854775807 := rfl
  refine acall mixed c_slices_Equal_string_string (by simp) ?_
  have hla := ha.len
  have hlb := hb.len
  rw [strCells_len] at hla hlb
  by_cases hll : la.length = lb.length
  · simp [a_slices_Equal_string_string, hla, hlb, hll, -alen]
    refine run_loop (fun m s => ∃ j, j ≤ la.length ∧ m = la.length - j ∧ s.A 0 = a ∧ s.A 1 = b ∧ s.A 12 = i64 la.length ∧ s.A 13 = i64 j ∧ s.H = H ∧ s.N = N ∧ ∀ i (h : i < la.length) (h2 : i < lb.length), i < j → strE la[i] lb[i] = true) la.length ?_ ?_
    · exact ⟨0, by omega, by omega, by simp, by simp, by simp [hll], by simp, by simp, by simp, fun i _ _ hi => by omega⟩
    · rintro m A H1 N1 ⟨j, hj, rfl, h0, h1, h12, h13, rfl, rfl, hok⟩
      simp only at h0 h1 h12 h13
      by_cases hjl : j = la.length
      · subst hjl
        have : eqvL strE la lb = true := eqvL_iff.2 ⟨hll, fun i h h2 => hok i h h2 h⟩
        simp [a_slices_Equal_string_stringb1, h12, h13, this]
      · have hlt : j < la.length := by omega
        have hlt2 : j < lb.length := by omega
        obtain ⟨p, hp, pp⟩ := ha.at (strCells_sz la) (strCells_at hlt)
        obtain ⟨q, hq, qq⟩ := hb.at (strCells_sz lb) (strCells_at hlt2)
        have lp := pp.one
        have lq := qq.one
        by_cases hv : strE la[j] lb[j] = true
        · simp [a_slices_Equal_string_stringb1, h0, h1, h12, h13, hlt, hp, hq, lp, lq, show la[j] = lb[j] from of_decide_eq_true hv, -aload, -eqsV]
          refine ⟨la.length - (j + 1), by omega, j + 1, by omega, rfl, by rw [wrap_i64 (by omega) (by omega)]; rfl, fun i h h2 hij => ?_⟩
          by_cases hij2 : i = j
          · subst hij2; exact hv
          · exact hok i h h2 (by omega)
        · have hvf : strE la[j] lb[j] = false := by simpa using hv
          have : eqvL strE la lb = false := eqvL_bad hlt hlt2 hvf
          simp [a_slices_Equal_string_stringb1, h0, h1, h12, h13, hlt, hp, hq, lp, lq, show ¬ la[j] = lb[j] from of_decide_eq_false hvf, this, -aload, -eqsV]
  · have : eqvL strE la lb = false := eqvL_len hll
    simp [a_slices_Equal_string_string, hla, hlb, show ¬ ((la.length : Int) = lb.length) by omega, this, -alen]






def sameFun (x y : FunV) : Bool := decide (x.name = y.name ∧ x.thread = y.thread ∧ x.params = y.params ∧ x.regs = y.regs) && eqvL sameIns x.code y.code
def samePrg (p q : PrgV) : Bool := eqvL memE p.mems q.mems && (eqvL strE p.locks q.locks && eqvL sameFun p.funs q.funs)

/-- What programs must be to be compared. -/
structure PrgV.Cmp (p : PrgV) : Prop where
  ml : p.mems.length ≤ maxLen
  ll : p.locks.length ≤ maxLen
  fl : p.funs.length ≤ maxLen
  cl : ∀ f ∈ p.funs, f.code.length ≤ maxLen
  ins : ∀ f ∈ p.funs, ∀ x ∈ f.code, x.Ok




end Go.Proofs.YtefejpckppabpaaGreatDoor
