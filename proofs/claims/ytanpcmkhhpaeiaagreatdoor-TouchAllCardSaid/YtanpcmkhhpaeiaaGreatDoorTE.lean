/- touch: threads; the example. -/
import Derived.Test.YtanpcmkhhpaeiaaGreatDoorTY
import Derived.Test.YtanpcmkhhpaeiaaGreatDoorKL
namespace Go.Proofs.YtanpcmkhhpaeiaaGreatDoor
set_option linter.unusedSimpArgs false
set_option linter.unusedVariables false
open Go Go.Fw
theorem p_tThreads {p : PrgV} (hl : p.funs.length ≤ 1000000000) (H : AHeap) (N : Nat) : ACall Tryz.prog 15 [.agg p.cells] H N (fun r H' N' => N ≤ N' ∧ (∀ j, j < N → H' j = H j) ∧ Built H' N 1 (.sl .nil 0 []) (intCells (thrL p.funs)) r) := by
  refine acallF mixed c_touch_Threads (by simp) fun hF => ?_
  simp [a_touch_Threads]
  refine run_loop (fun m s => ∃ j v, j ≤ p.funs.length ∧ m = p.funs.length - j ∧ s.A 3 = v ∧ s.A 7 = .sl p.fk 5 (funCells p.funs) ∧ s.A 8 = i64 p.funs.length ∧ s.A 9 = i64 j ∧ N ≤ s.N ∧ (∀ j, j < N → s.H j = H j) ∧ Fresh s.H s.N ∧ Built s.H N 1 (.sl .nil 0 []) (intCells (thrL (p.funs.take j))) v) p.funs.length ?_ ?_
  · exact ⟨0, .sl .nil 0 [], by omega, by omega, by simp, by simp, by simp, by simp, by simp, fun _ _ => rfl, hF, .nil⟩
  · rintro m A1 H1 N1 ⟨j, v, hj, rfl, e3, e7, e8, e9, hN1, hold, hF1, hB⟩
    simp only at e3 e7 e8 e9 hN1 hold hF1 hB
    by_cases hjl : j = p.funs.length
    · subst hjl
      rw [List.take_length] at hB
      simp [a_touch_Threadsb1, e3, e8, e9]
      exact ⟨hN1, hold, hB⟩
    · have hlt : j < p.funs.length := by omega
      obtain ⟨x, hx⟩ : ∃ x, p.funs[j] = x := ⟨_, rfl⟩
      have hix : aindex 5 (.sl p.fk 5 (funCells p.funs)) (i64 j) = some (.ip x.cells 0) := aindex_sl (by omega) (by simp [funCells, hlt, hx])
      have hsp : splice 0 x.cells [AV.lit (Value.string ⟨#[]⟩), AV.lit (Value.bool false), AV.lit (Value.int .i64 0), AV.lit (Value.int .i64 0), AV.sl .nil 0 []] = x.cells := splice_full (by simp)
      have hnx := thrL_next hlt
      rw [hx] at hnx
      have hB1 := built_after hB hF1 (H' := H1.set N1 (.blk x.cells)) (fun j hj => by simp only [AHeap.set]; rw [if_neg (by omega)])
      have hlen := thrL_len (p.funs.take j)
      rw [List.length_take] at hlen
      by_cases ht : x.thread = true
      · rw [if_pos ht] at hnx
        obtain ⟨v', H', N', happ, hB', ho', hN', hF'⟩ := hB1.push (bytes := 8) (k := .exact) (x := [i64 j]) (hF1.set _) (by omega) rfl (by rw [intCells_len]; unfold lim; omega) (by rw [intCells_len]; omega)
        have hB2 : Built H' N 1 (.sl .nil 0 []) (intCells (thrL (p.funs.take (j + 1)))) v' := by rw [hnx, intCells_app]; exact hB'
        simp [a_touch_Threadsb1, e3, e7, e8, e9, hlt, hix, hsp, ht, happ]
        exact ⟨p.funs.length - (j + 1), by omega, j + 1, by omega, rfl, by rw [wrap_i64 (by omega) (by omega)]; rfl, by omega, fun i hi => by rw [ho' i hi]; simp only [AHeap.set]; rw [if_neg (by omega)]; exact hold i hi, hF', hB2⟩
      · rw [if_neg ht] at hnx
        rw [← hnx] at hB1
        simp [a_touch_Threadsb1, e3, e7, e8, e9, hlt, hix, hsp, ht]
        exact ⟨p.funs.length - (j + 1), by omega, j + 1, by omega, rfl, by rw [wrap_i64 (by omega) (by omega)]; rfl, by omega, fun i hi => (by rw [if_neg (by omega)]; exact hold i hi), hF1.set _, hB1⟩

theorem p_rThreads {p : PrgV} (hl : p.funs.length ≤ 1000000000) (H : AHeap) (N : Nat) : ACall Tryz.prog 16 [.agg p.cells] H N (fun r H' N' => N ≤ N' ∧ (∀ j, j < N → H' j = H j) ∧ Built H' N 1 (.sl .nil 0 []) (intCells (thrL p.funs)) r) := by
  refine acallF mixed c_bobbinref18_Threads (by simp) fun hF => ?_
  simp [a_bobbinref18_Threads]
  refine run_loop (fun m s => ∃ j v, j ≤ p.funs.length ∧ m = p.funs.length - j ∧ s.A 1 = .ip p.cells 0 ∧ s.A 3 = v ∧ s.A 4 = i64 j ∧ N ≤ s.N ∧ (∀ j, j < N → s.H j = H j) ∧ Fresh s.H s.N ∧ Built s.H N 1 (.sl .nil 0 []) (intCells (thrL (p.funs.take j))) v) p.funs.length ?_ ?_
  · exact ⟨0, .sl .nil 0 [], by omega, by omega, by simp, by simp, by simp, by simp, fun _ _ => rfl, hF, .nil⟩
  · rintro m A1 H1 N1 ⟨j, v, hj, rfl, e1, e3, e4, hN1, hold, hF1, hB⟩
    simp only at e1 e3 e4 hN1 hold hF1 hB
    by_cases hjl : j = p.funs.length
    · subst hjl
      rw [List.take_length] at hB
      simp [a_bobbinref18_Threadsb1, e1, e3, e4]
      exact ⟨hN1, hold, hB⟩
    · have hlt : j < p.funs.length := by omega
      obtain ⟨x, hx⟩ : ∃ x, p.funs[j] = x := ⟨_, rfl⟩
      have hix : aindex 5 (.sl p.fk 5 (funCells p.funs)) (i64 j) = some (.ip x.cells 0) := aindex_sl (by omega) (by simp [funCells, hlt, hx])
      have hnx := thrL_next hlt
      rw [hx] at hnx
      have hlen := thrL_len (p.funs.take j)
      rw [List.length_take] at hlen
      by_cases ht : x.thread = true
      · rw [if_pos ht] at hnx
        obtain ⟨v', H', N', happ, hB', ho', hN', hF'⟩ := hB.push (bytes := 8) (k := .exact) (x := [i64 j]) hF1 (by omega) rfl (by rw [intCells_len]; unfold lim; omega) (by rw [intCells_len]; omega)
        have hB2 : Built H' N 1 (.sl .nil 0 []) (intCells (thrL (p.funs.take (j + 1)))) v' := by rw [hnx, intCells_app]; exact hB'
        simp [a_bobbinref18_Threadsb1, e1, e3, e4, hlt, hix, ht, happ]
        exact ⟨p.funs.length - (j + 1), by omega, j + 1, by omega, rfl, by rw [wrap_i64 (by omega) (by omega)]; rfl, by omega, fun i hi => by rw [ho' i hi]; exact hold i hi, hF', hB2⟩
      · rw [if_neg ht] at hnx
        rw [← hnx] at hB
        simp [a_bobbinref18_Threadsb1, e1, e3, e4, hlt, hix, ht]
        exact ⟨p.funs.length - (j + 1), by omega, j + 1, by omega, rfl, by rw [wrap_i64 (by omega) (by omega)]; rfl, hN1, hold, hF1, hB⟩


def j5 (op r a b n : Int) : Ins := ⟨op, r, a, b, n, .nil, 0, []⟩
def exC0 : List Ins := [j5 7 0 0 0 0, j5 8 0 0 0 0, j5 1 0 0 0 0, j5 13 0 0 0 0]
def exC1 : List Ins := [j5 5 0 (-1) 0 1, j5 6 0 (-1) 0 0, j5 10 1 0 0 0, j5 13 0 1 0 0]
def exP : PrgV := ⟨.exact, .exact, .exact, [⟨⟨#[120]⟩, 1, 0⟩, ⟨⟨#[121]⟩, 1, 0⟩], [⟨#[108]⟩], [⟨⟨#[102]⟩, false, 0, 1, .exact, exC0⟩, ⟨⟨#[116]⟩, true, 0, 2, .exact, exC1⟩]⟩
theorem codeF (l : List Ins) : freeLL (codeCells l) = true := freeLL_map _ l fun x _ => x.freeC
theorem exP_free : freeL exP.cells = true := by
  simp [exP, PrgV.cells, freeL, AV.free, memCells, lockCells, funCells, freeLL, FunV.cells, MemV.cells, codeF]
  exact ⟨codeF _, codeF _⟩
theorem p_example : PCall Tryz.prog 30 [] (.agg exP.cells) := by
  refine PCall.of fun N => acall mixed c_bobbinlaw18_example (by simp) ?_
  have d : ¬ N = N + 1 + 1 := by omega
  simp [a_bobbinlaw18_example, splice, d]
  exact .free exP_free
theorem exP_may : prgB exP = true := by kernel_rfl
def fitB' (p : PrgV) : Bool := decide (p.mems.length + p.locks.length + p.funs.length ≤ 1000) && (p.names.all (fun s => decide (s.size ≤ 1000)) && p.funs.all fun f => decide (f.code.length ≤ 2000) && f.code.all fun x => decide (0 ≤ x.op ∧ x.op < 256) && x.args.isEmpty)
theorem fit_of' {p : PrgV} (h : fitB' p = true) : p.Fit := by
  unfold fitB' at h
  simp only [Bool.and_eq_true, decide_eq_true_eq, List.all_eq_true, List.isEmpty_iff] at h
  obtain ⟨h1, h2, h3⟩ := h
  refine ⟨by omega, fun s hs => by have := h2 s hs; omega, fun f hf => by have := (h3 f hf).1; omega, fun f hf x hx => ?_⟩
  have := (h3 f hf).2 x hx
  exact ⟨⟨this.1.1, this.1.2, by rw [this.2]; exact Nat.zero_le _, .inr this.2⟩, by rw [this.2]; exact Nat.zero_le _⟩
theorem shr_of' {p : PrgV} (h : fitB' p = true) : p.Shr := by
  unfold fitB' at h
  simp only [Bool.and_eq_true, decide_eq_true_eq, List.all_eq_true] at h
  exact ⟨by omega, fun f hf => by have := (h.2.2 f hf).1; omega⟩
theorem exP_fit : exP.Fit := fit_of' (by kernel_rfl)
theorem exP_shr : exP.Shr := shr_of' (by kernel_rfl)
theorem ex_own0 : ownP exP 0 = ownV exC0 := rfl
theorem ex_own1 : ownP exP 1 = ownV exC1 := rfl
theorem ex_rch (k : Nat) : Rchd (ownP exP) 1 k ↔ k = 0 ∨ k = 1 := by
  constructor
  · refine Rchd.closed (L := fun k => k = 0 ∨ k = 1) (.inr rfl) fun k hk c hc => ?_
    rcases hk with rfl | rfl
    · obtain ⟨x, hx, h1, h2⟩ := (ownV_mem (f := 4) (by omega)).1 (show (c : Int) ∈ (ownV exC0).get 4 from hc)
      simp only [exC0, j5, List.mem_cons, List.not_mem_nil, or_false] at hx
      rcases hx with rfl | rfl | rfl | rfl <;> simp [opK] at h1
    · obtain ⟨x, hx, h1, h2⟩ := (ownV_mem (f := 4) (by omega)).1 (show (c : Int) ∈ (ownV exC1).get 4 from hc)
      simp only [exC1, j5, List.mem_cons, List.not_mem_nil, or_false] at hx
      rcases hx with rfl | rfl | rfl | rfl <;> simp [opK] at h1
      simp at h2
      omega
  · rintro (rfl | rfl)
    · exact .step .refl ((ownV_mem (f := 4) (by omega)).2 ⟨j5 10 1 0 0 0, by simp [exC1], rfl, rfl⟩)
    · exact .refl
theorem ex_sum {s : SumV} (h : IsSum (ownP exP) (Rchd (ownP exP) 1) s) {f : Nat} (hf : f < 5) {t : List Int} (ht : t.Pairwise (· < ·)) (hm : ∀ v, (∃ x ∈ exC0 ++ exC1, x.op = opK f ∧ x.n = v) ↔ v ∈ t) : s.get f = t :=
  eq_of_lt _ _ (h f hf).1 ht fun v => by
    rw [(h f hf).2, ← hm]
    constructor
    · rintro ⟨k, hk, hv⟩
      rcases (ex_rch k).1 hk with rfl | rfl
      · obtain ⟨x, hx, h1⟩ := (ownV_mem hf).1 (show v ∈ (ownV exC0).get f from hv)
        exact ⟨x, by simp [hx], h1⟩
      · obtain ⟨x, hx, h1⟩ := (ownV_mem hf).1 (show v ∈ (ownV exC1).get f from hv)
        exact ⟨x, by simp [hx], h1⟩
    · rintro ⟨x, hx, h1⟩
      rcases List.mem_append.1 hx with h2 | h2
      · exact ⟨0, (ex_rch 0).2 (.inl rfl), (ownV_mem hf).2 ⟨x, h2, h1⟩⟩
      · exact ⟨1, (ex_rch 1).2 (.inr rfl), (ownV_mem hf).2 ⟨x, h2, h1⟩⟩
theorem ex_r {s : SumV} (h : IsSum (ownP exP) (Rchd (ownP exP) 1) s) : s.r = [1] := ex_sum h (f := 0) (by omega) (by simp) fun v => by simp [exC0, exC1, j5, opK]; omega
theorem ex_w {s : SumV} (h : IsSum (ownP exP) (Rchd (ownP exP) 1) s) : s.w = [0] := ex_sum h (f := 1) (by omega) (by simp) fun v => by simp [exC0, exC1, j5, opK]; omega
theorem ex_t {s : SumV} (h : IsSum (ownP exP) (Rchd (ownP exP) 1) s) : s.t = [0] := ex_sum h (f := 2) (by omega) (by simp) fun v => by simp [exC0, exC1, j5, opK]; omega
theorem ex_c {s : SumV} (h : IsSum (ownP exP) (Rchd (ownP exP) 1) s) : s.c = [0] := ex_sum h (f := 4) (by omega) (by simp) fun v => by simp [exC0, exC1, j5, opK]; omega
theorem ex_own_t : (ownV exC1).t = [] := by
  refine List.eq_nil_iff_forall_not_mem.2 fun v hv => ?_
  obtain ⟨x, hx, h1, h2⟩ := (ownV_mem (f := 2) (by omega)).1 (show v ∈ (ownV exC1).get 2 from hv)
  simp only [exC1, j5, List.mem_cons, List.not_mem_nil, or_false] at hx
  rcases hx with rfl | rfl | rfl | rfl <;> simp [opK] at h1
theorem ex_thr : thrL exP.funs = [1] := by kernel_rfl
end Go.Proofs.YtanpcmkhhpaeiaaGreatDoor
