/- bytes: what the walks share. -/
import Derived.Test.YtefejpckppabpaaGreatDoorW1
import Derived.Test.YtefejpckppabpaaGreatDoorM6
import Derived.Test.YtefejpckppabpaaGreatDoorKB
namespace Go.Proofs.YtefejpckppabpaaGreatDoor
set_option linter.unusedSimpArgs false
set_option linter.unusedVariables false
open Go Go.Fw
/-- A call that only makes memory: what it is handed may be told as values, and nothing is lost. -/
theorem PCall.seen {P : Program} {f : FuncId} {args args' : List AV} {x : Value} {H : AHeap} {N : Nat} {Q : AV → AHeap → Nat → Prop} (h : PCall P f args' (.lit x))
    (hl : args.length = args'.length) (hv : ∀ (i : Nat) (a b : AV), args[i]? = some a → args'[i]? = some b → a = b ∨ View H a b) (hq : Q (.lit x) H N) : ACall P f args H N Q := by
  refine ⟨h.1, fun e vs hH hN hvl hr => ?_⟩
  have hK' := hrep_still (K := noHeap) (F := H) hH (fun id o ho => by cases ho) (fun _ _ h => h) (fun id o ho => by cases ho)
  refine (h.2 (e.still H e.ρ e.N) vs ⟨hK'.imm, hK'.gl⟩ (hvl.trans hl) (fun i c v hc hv' => ?_)).mono ?_
  · have hi : i < args'.length := (List.getElem?_eq_some_iff.1 hc).1
    have ha : args[i]? = some (args[i]'(by omega)) := by simp [show i < args.length by omega]
    have hrep := hr i _ v ha hv'
    rcases hv i _ c ha hc with h1 | h1
    · rw [← h1]; exact hrep.ext ext_still
    · exact h1.rep hH hrep _ _
  · rintro y w' ⟨v, e2, rfl, rfl, hrep, hp⟩
    cases hrep
    have hp' : PTr e { w := e2.w, I := e.I, ρ := e.ρ, N := e.N } := ⟨rfl, rfl, hp.old, fun _ h => h, fun _ h => .inl h, hp.size, hp.os, hp.tape, hp.output⟩
    exact ⟨x, { w := e2.w, I := e.I, ρ := e.ρ, N := e.N }, .lit x, H, rfl, rfl, by rw [← hN] at hq; exact hq, .lit x, hp'.hrep hH, hp'.tr hH⟩
/-- All arguments are seen. -/
theorem views {H : AHeap} {xs bs : List AV} (h : ViewL H xs bs) : ∀ (i : Nat) (a b : AV), xs[i]? = some a → bs[i]? = some b → a = b ∨ View H a b := fun i a b ha hb => .inr (h.2 i a b ha hb)
theorem freeL_flat : ∀ {es : List (List AV)}, freeLL es = true → freeL es.flatten = true
  | [], _ => rfl
  | a :: r, h => by
    simp only [freeLL, Bool.and_eq_true] at h
    have app : ∀ (a b : List AV), freeL a = true → freeL b = true → freeL (a ++ b) = true := fun a b ha hb => by
      induction a with
      | nil => exact hb
      | cons c a ih => simp only [List.cons_append, freeL, Bool.and_eq_true] at ha ⊢; exact ⟨ha.1, ih ha.2⟩
    exact app _ _ h.1 (freeL_flat h.2)
theorem view_flat {H : AHeap} {o1 sz : Nat} {es : List (List AV)} (hs : ∀ x ∈ es, x.length = sz) (hf : freeLL es = true) {n : Nat} (hn : es.length = n) (ho : H o1 = some (.blk es.flatten)) : View H (.ms o1 0 n sz) (.sl .any sz es) := by
  have h := View.ms (H := H) (id := o1) (off := 0) (len := n) (sz := sz) (cs := es.flatten) (ds := es.flatten) ho (by rw [flatten_len hs, hn]; omega) rfl (fun i c d hc hd => by
    rw [hc] at hd
    cases hd
    exact .free (freeL_get (freeL_flat hf) hc))
  rw [List.drop_zero, ← hn, Go.Fw.chunks_flatten hs] at h
  rw [← hn]
  exact h
theorem zall_all {α : Type} (l : List α) (p : α → Bool) : zall l (fun x _ => p x) = l.all p := by
  rw [Bool.eq_iff_iff, zall_iff, List.all_eq_true]
  constructor
  · intro h x hx
    obtain ⟨i, hi, rfl⟩ := List.getElem_of_mem hx
    exact h i hi
  · intro h i hi
    exact h _ (List.getElem_mem hi)
theorem Ins.frL (x : Ins) : freeL x.cells = true := by simp [AV.free, Ins.cells, freeL, intCells_free]
theorem codeCells_free (l : List Ins) : freeLL (codeCells l) = true := freeLL_map _ l fun x _ => x.frL
theorem flat_set {sz : Nat} {v : AV} {c : Nat} (hc : c < sz) : ∀ {L : List (List AV)} (h : ∀ x ∈ L, x.length = sz) {k : Nat} (hk : k < L.length), L.flatten.set (k * sz + c) v = (L.set k (L[k].set c v)).flatten
  | [], _, k, hk => by simp at hk
  | a :: L, h, 0, hk => by
    have ha := h a (by simp)
    rw [Nat.zero_mul, Nat.zero_add, List.flatten_cons, List.set_append_left _ _ (by omega)]
    rfl
  | a :: L, h, k + 1, hk => by
    have ha := h a (by simp)
    have ih := flat_set hc (v := v) (L := L) (fun x hx => h x (by simp [hx])) (k := k) (by simpa using hk)
    have e : (k + 1) * sz + c = a.length + (k * sz + c) := by rw [ha, Nat.succ_mul]; omega
    rw [List.flatten_cons, e, List.set_append_right _ _ (by omega), Nat.add_sub_cancel_left, ih]
    simp
theorem fresh_rewr {H : AHeap} {N i : Nat} {o o2 : AObj} (h : Fresh H N) (hi : H i = some o) : Fresh (H.set i o2) N := fun j hj => by
  simp only [AHeap.set]; rw [if_neg (by have := h.lt hi; omega)]; exact h j hj
theorem FunV.frL (x : FunV) : freeL x.cells = true := by simp [FunV.cells, freeL, AV.free, show freeLL (x.code.map Ins.cells) = true from codeCells_free x.code]
theorem funCells_free (l : List FunV) : freeLL (funCells l) = true := freeLL_map _ l fun x _ => x.frL
theorem memCells_free (l : List MemV) : freeLL (memCells l) = true := freeLL_map _ l fun x _ => rfl
theorem lockCells_free (l : List ByteArray) : freeLL (lockCells l) = true := freeLL_map _ l fun x _ => rfl
end Go.Proofs.YtefejpckppabpaaGreatDoor

/- dom: a row of one number, over and over. -/
namespace Go.Proofs.YtefejpckppabpaaGreatDoor
set_option linter.unusedSimpArgs false
set_option linter.unusedVariables false
open Go Go.Fw

abbrev u64 (n : Int) : AV := .lit (.int .u64 n)

theorem wrap_u64 {n : Int} (h : 0 ≤ n) (h2 : n < 18446744073709551616) : IntKind.u64.wrap n = n := by
  simp [IntKind.wrap, IntKind.bits, IntKind.signed]; omega
theorem and32 {b : Int} (h : 0 ≤ b) (h2 : b < 4294967296) : iand .u64 b 4294967295 = b := by
  obtain ⟨n, rfl⟩ := Int.eq_ofNat_of_zero_le h
  have h3 : n < 4294967296 := by omega
  have : (BitVec.ofInt 64 (n : Int) &&& BitVec.ofInt 64 4294967295).toNat = n := by
    simp
    rw [Nat.mod_eq_of_lt (by omega : n < 18446744073709551616)]
    have := Nat.and_two_pow_sub_one_eq_mod n 32
    simp at this
    rw [this]
    omega
  have e : iand .u64 (n : Int) 4294967295 = IntKind.u64.wrap ((BitVec.ofInt 64 (n : Int) &&& BitVec.ofInt 64 4294967295).toNat : Nat) := rfl
  rw [e, this]
  exact wrap_u64 h (by omega)

theorem shr32 {b : Int} (h : 0 ≤ b) (h2 : b < 4294967296) : ishr .u64 b 32 = 0 := by
  have : min (Int.toNat 32) IntKind.u64.bits = 32 := by decide
  unfold ishr
  rw [this, Int.fdiv_eq_ediv_of_nonneg _ (by decide)]
  omega

theorem p_Mul64 (b : Int) (h : 0 ≤ b) (h2 : b < 4294967296) : PCall Tryz.prog 100 [u64 1, u64 b] (.tup [u64 0, u64 b]) := by
  refine PCall.of fun N => acall mixed c_math_bits_Mul64 (by simp) ?_
  have e1 : iand .u64 1 4294967295 = 1 := by decide
  have e0 : iand .u64 0 4294967295 = 0 := by decide
  have e2 : ishr .u64 1 32 = 0 := by decide
  have e3 : ishr .u64 0 32 = 0 := by decide
  simp [a_math_bits_Mul64, and32 h h2, shr32 h h2, e1, e2, e0, e3, wrap_u64 h (by omega), show IntKind.u64.wrap 0 = 0 by decide]
  exact .free rfl

theorem p_Mul (b : Int) (h : 0 ≤ b) (h2 : b < 4294967296) : PCall Tryz.prog 80 [u64 1, u64 b] (.tup [u64 0, u64 b]) := by
  refine PCall.of fun N => acall mixed c_math_bits_Mul (by simp) ?_
  simp [a_math_bits_Mul]
  refine (p_Mul64 b h h2).acall ?_
  simp
  exact .free rfl

theorem rep_step {v z : AV} {j k q : Nat} (h : j + q ≤ k) : splice j (List.replicate q v) (List.replicate j v ++ List.replicate (k - j) z) = List.replicate (j + q) v ++ List.replicate (k - (j + q)) z := by
  rw [splice_eq (by simp; omega)]
  have h1 : (List.replicate j v ++ List.replicate (k - j) z).take j = List.replicate j v := by
    rw [List.take_append_of_le_length (by simp), List.take_of_length_le (by simp)]
  have h2 : (List.replicate j v ++ List.replicate (k - j) z).drop (j + (List.replicate q v).length) = List.replicate (k - (j + q)) z := by
    rw [List.length_replicate, List.drop_append, List.drop_eq_nil_of_le (by simp), List.nil_append, List.drop_replicate]
    congr 1
    simp
    omega
  rw [h1, h2, List.replicate_append_replicate]

/-- Repeat, of one number. -/
theorem a_Repeat (v : Int) (k : Nat) (h : 1 ≤ k) (h2 : k ≤ 1000000) (H : AHeap) (N : Nat) :
    ACall Tryz.prog 60 [.sl .exact 1 [[i64 v]], i64 k] H N (fun r H' N' => r = .ms N 0 k 1 ∧ H' = H.set N (.blk (List.replicate k (i64 v))) ∧ N' = N + 1) := by
  refine acall mixed c_slices_Repeat_int_int (by simp) ?_
  have n0 : ¬ ((k : Int) < 0) := by omega
  have n1 : ¬ (9223372036854775807 < (k : Int)) := by omega
  have w1 := wrap_u64 (n := k) (by omega) (by omega)
  have w2 := wrap_i64 (n := k) (by omega) (by omega)
  simp [a_slices_Repeat_int_int, n0, w1, show IntKind.u64.wrap 1 = 1 by decide]
  refine (p_Mul k (by omega) (by omega)).acall ?_
  have hmk : amake 1 8 [AV.lit (.int .i64 0)] (i64 k) (i64 k) = some (k, k) := by
    simp [amake]; omega
  have hcp : acopy (H.set N (.blk (List.replicate k (AV.lit (.int .i64 0))))) 1 (.ms N 0 k 1) (.sl .exact 1 [[i64 v]]) =
      some (1, H.set N (.blk (List.replicate 1 (i64 v) ++ List.replicate (k - 1) (i64 0)))) := by
    have : min 1 k = 1 := by omega
    obtain ⟨m, rfl⟩ : ∃ m, k = m + 1 := ⟨k - 1, by omega⟩
    simp [acopy, alenS, asrcN, this, splice, List.replicate_succ]
  simp [n0, n1, w2, hmk, hcp]
  refine run_loop (fun m s => ∃ j, 1 ≤ j ∧ j ≤ k ∧ m = k - j ∧ s.A 7 = .ms N 0 k 1 ∧ s.A 8 = i64 j ∧ s.H = H.set N (.blk (List.replicate j (i64 v) ++ List.replicate (k - j) (i64 0))) ∧ s.N = N + 1) (k - 1) ?_ ?_
  · exact ⟨1, by omega, h, rfl, by simp, by simp, by simp, by simp⟩
  · rintro m A H1 N1 ⟨j, hj1, hj2, rfl, h7, h8, rfl, rfl⟩
    simp only at h7 h8
    by_cases hjk : j = k
    · subst hjk
      simp [a_slices_Repeat_int_intb1, h7, h8]
    · have hlt : j < k := by omega
      have s1 : aslice 1 (.ms N 0 k 1) (some (i64 j)) none none = some (.ms N j (k - j) 1) := by
        simp [aslice, bnd, hj2]
      have s2 : aslice 1 (.ms N 0 k 1) none (some (i64 j)) none = some (.ms N 0 j 1) := by
        simp [aslice, bnd, hj2]
      have s3 : acopy (H.set N (.blk (List.replicate j (i64 v) ++ List.replicate (k - j) (i64 0)))) 1 (.ms N j (k - j) 1) (.ms N 0 j 1) =
          some (min j (k - j), H.set N (.blk (List.replicate (j + min j (k - j)) (i64 v) ++ List.replicate (k - (j + min j (k - j))) (i64 0)))) := by
        have hq : j + min j (k - j) ≤ k := by omega
        have ht : (List.replicate j (i64 v) ++ List.replicate (k - j) (i64 0)).take (min j (k - j)) = List.replicate (min j (k - j)) (i64 v) := by
          rw [List.take_append_of_le_length (by simp; omega), List.take_replicate]
          congr 1
          omega
        have := rep_step (v := i64 v) (z := i64 0) hq
        simp only [acopy, alenS, asrcN, set_at, if_true, List.drop_zero, Nat.mul_one, Nat.zero_add, set_set]
        rw [if_pos (by simp <;> omega)]
        simp only
        rw [if_pos (by simp <;> omega), ht, this]
      simp [a_slices_Repeat_int_intb1, hlt, h7, h8, s1, s2, s3]
      generalize hq : min j (k - j) = q
      exact ⟨k - (j + q), by omega, j + q, by omega, by omega, rfl, by rw [wrap_i64 (by omega) (by omega)]; omega, rfl⟩

theorem intCells_flat2 (l : List Int) : (intCells l).flatten = l.map i64 := by
  induction l with
  | nil => rfl
  | cons a l ih => simp only [intCells, List.map_cons, List.flatten_cons] at ih ⊢; rw [ih]; rfl
section
variable {A : Nat → AV} {H H0 : AHeap} {N N0 : Nat} {v vt vo fv : AV} {l tl ol ls : List Int}
/-- A slice of one's own, with room behind. -/
def OwnT (H : AHeap) (N0 : Nat) (v : AV) (l : List Int) : Prop := (l = [] ∧ v = .sl .nil 0 []) ∨ ∃ (i : Nat) (z : List Int), N0 ≤ i ∧ v = .ms i 0 l.length 1 ∧ H i = some (.blk ((l ++ z).map i64))
theorem OwnT.keep {H' : AHeap} (h : OwnT H N0 v l) (hk : ∀ i n, v = .ms i 0 n 1 → H' i = H i) : OwnT H' N0 v l := by
  rcases h with h | ⟨i, z, h1, h2, h3⟩
  · exact .inl h
  · exact .inr ⟨i, z, h1, h2, by rw [hk i _ h2]; exact h3⟩
theorem OwnT.rd (h : OwnT H N0 v l) : RdSl H 1 (intCells l) v := by
  rcases h with ⟨rfl, rfl⟩ | ⟨i, z, _, rfl, h1⟩
  · exact .nil _ _
  · refine .inr ⟨i, 0, _, by rw [intCells_len], .inr ⟨h1, ?_, ?_⟩⟩
    · rw [intCells_len]; simp
    · rw [intCells_len, intCells_flat2, List.drop_zero, Nat.mul_one, List.map_append, List.take_left' (by simp)]
theorem OwnT.lt (h : OwnT H N0 v l) (hF : Fresh H N) : ∀ i n, v = .ms i 0 n 1 → i < N ∧ N0 ≤ i := fun i n hv => by
  rcases h with ⟨_, rfl⟩ | ⟨i', z, h0, rfl, h1⟩
  · cases hv
  · cases hv; exact ⟨hF.lt h1, h0⟩
/-- One more. -/
theorem own_push (h : OwnT H N0 v l) (hF : Fresh H N) (hl : l.length ≤ 10000000) (x : Int) :
    ∃ H', aappend false 1 8 H N v (.sl .exact 1 [[i64 x]]) = some (.ms N 0 (l.length + 1) 1, H', N + 1) ∧ H' N = some (.blk ((l ++ [x]).map i64)) ∧ (∀ j, j ≠ N → (∀ n, v ≠ .ms j 0 n 1) → H' j = H j) ∧ Fresh H' (N + 1) := by
  have hlim : 100000000 ≤ lim := by unfold lim; decide
  have hsrc : asrc H 1 (.sl .exact 1 [[i64 x]]) = some ([i64 x], 1) := by simp [asrc]
  rcases h with ⟨rfl, rfl⟩ | ⟨i, z, h0, rfl, h1⟩
  · refine ⟨H.set N (.blk [i64 x]), ?_, by simp, fun j hj _ => by simp [hj], hF.set _⟩
    simp [aappend, hsrc, show 8 ≤ lim by omega, -asrc]
  · have hiN := hF.lt h1
    refine ⟨(H.del i).set N (.blk ((l ++ [x]).map i64)), ?_, by simp, fun j hj hv => ?_, ?_⟩
    · simp only [aappend, hsrc, h1]
      have hc : True ∧ 0 + l.length * 1 ≤ ((l ++ z).map i64).length ∧ (l.length + 1) * 8 ≤ lim ∧ l.length + 1 ≤ 9223372036854775807 := ⟨trivial, by simp, by omega, by omega⟩
      rw [if_pos hc, List.drop_zero, Nat.mul_one, List.map_append, List.take_left' (by simp)]
      simp
    · have hji : j ≠ i := fun he => by subst he; exact hv _ rfl
      simp [hj, AHeap.del, hji]
    · intro j hj
      simp only [AHeap.set, AHeap.del]
      rw [if_neg (by omega)]
      split
      · rfl
      · exact hF j (by omega)
end
end Go.Proofs.YtefejpckppabpaaGreatDoor
