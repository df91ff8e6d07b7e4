/- front: Placed. -/
import Derived.Test.YtmbbklddjkmcmaaE6
namespace Go.Proofs.Ytmbbklddjkmcmaa
set_option linter.unusedSimpArgs false
set_option linter.unusedVariables false
open Go Go.Fw Go.Dm

section
variable {A : Nat → AV} {H H0 : AHeap} {N N0 : Nat} {fs : List Fr} {Q : Post} {v vt vo fv : AV} {l tl ol ls : List Int} {w : List (List Int)} {S : Nat → Prop}

/-- A slice of one's own, with room behind. -/
def OwnT (H : AHeap) (N0 : Nat) (v : AV) (l : List Int) : Prop := (l = [] ∧ v = .sl .nil 0 []) ∨ ∃ (i : Nat) (z : List Int), N0 ≤ i ∧ v = .ms i 0 l.length 1 ∧ H i = some (.blk ((l ++ z).map i64))
/-- One that is just filled. -/
def OwnO (H : AHeap) (N0 : Nat) (v : AV) (l : List Int) : Prop := (l = [] ∧ v = .sl .nil 0 []) ∨ (l ≠ [] ∧ ∃ i : Nat, N0 ≤ i ∧ v = .ms i 0 l.length 1 ∧ H i = some (.blk (l.map i64)))

theorem OwnO.t (h : OwnO H N0 v l) : OwnT H N0 v l := by
  rcases h with h | ⟨_, i, h1, h2, h3⟩
  · exact .inl h
  · exact .inr ⟨i, [], h1, h2, by rw [List.append_nil]; exact h3⟩
theorem OwnO.keep {H' : AHeap} (h : OwnO H N0 v l) (hk : ∀ i n, v = .ms i 0 n 1 → H' i = H i) : OwnO H' N0 v l := by
  rcases h with h | ⟨h0, i, h1, h2, h3⟩
  · exact .inl h
  · exact .inr ⟨h0, i, h1, h2, by rw [hk i _ h2]; exact h3⟩
theorem OwnT.keep {H' : AHeap} (h : OwnT H N0 v l) (hk : ∀ i n, v = .ms i 0 n 1 → H' i = H i) : OwnT H' N0 v l := by
  rcases h with h | ⟨i, z, h1, h2, h3⟩
  · exact .inl h
  · exact .inr ⟨i, z, h1, h2, by rw [hk i _ h2]; exact h3⟩
theorem OwnT.rd (h : OwnT H N0 v l) : RdSl H 1 (intCells l) v := by
  rcases h with ⟨rfl, rfl⟩ | ⟨i, z, _, rfl, h1⟩
  · exact .nil _ _
  · refine .inr ⟨i, 0, _, by rw [intCells_len], .inr ⟨h1, ?_, ?_⟩⟩
    · rw [intCells_len]; simp
    · rw [intCells_len, intCells_flat, List.drop_zero, Nat.mul_one, List.map_append, List.take_left' (by simp)]
theorem OwnT.lt (h : OwnT H N0 v l) (hF : Fresh H N) : ∀ i n, v = .ms i 0 n 1 → i < N ∧ N0 ≤ i := fun i n hv => by
  rcases h with ⟨_, rfl⟩ | ⟨i', z, h0, rfl, h1⟩
  · cases hv
  · cases hv; exact ⟨hF.lt h1, h0⟩

/-- One more. -/
theorem own_push (h : OwnT H N0 v l) (hF : Fresh H N) (hl : l.length ≤ 100000) (x : Int) :
    ∃ H', aappend false 1 8 H N v (.sl .exact 1 [[i64 x]]) = some (.ms N 0 (l.length + 1) 1, H', N + 1) ∧ H' N = some (.blk ((l ++ [x]).map i64)) ∧ (∀ j, j ≠ N → (∀ n, v ≠ .ms j 0 n 1) → H' j = H j) ∧ Fresh H' (N + 1) := by
  have hlim : 1000000 ≤ lim := by unfold lim; decide
  have hsrc : asrc H 1 (.sl .exact 1 [[i64 x]]) = some ([i64 x], 1) := by simp [asrc]
  rcases h with ⟨rfl, rfl⟩ | ⟨i, z, h0, rfl, h1⟩
  · refine ⟨H.set N (.blk [i64 x]), ?_, by simp, fun j hj _ => by simp [hj], hF.set _⟩
    simp [aappend, hsrc, show 8 ≤ lim by omega, -asrc]
  · have hiN := hF.lt h1
    refine ⟨(H.del i).set N (.blk ((l ++ [x]).map i64)), ?_, by simp, fun j hj hv => ?_, ?_⟩
    · simp only [aappend, hsrc, h1]
      have hc : True ∧ 0 + l.length * 1 ≤ ((l ++ z).map i64).length ∧ (l.length + 1) * 8 ≤ lim ∧ l.length + 1 ≤ 9223372036854775807 := ⟨trivial, by simp, by omega, by omega⟩
      rw [if_pos hc, List.drop_zero, Nat.mul_one, List.map_append, List.take_left' (by simp)]
      simp
    · have hji : j ≠ i := fun he => by subst he; exact hv _ rfl
      simp [hj, AHeap.del, hji]
    · intro j hj
      simp only [AHeap.set, AHeap.del]
      rw [if_neg (by omega)]
      split
      · rfl
      · exact hF j (by omega)

/-- The two rows. -/
structure PH (H0 : AHeap) (N0 : Nat) (H : AHeap) (N : Nat) (vt vo : AV) (tl ol : List Int) : Prop where
  f : Fresh H N
  t : OwnT H N0 vt tl
  o : OwnO H N0 vo ol
  ap : ∀ i n m, vt = .ms i 0 n 1 → vo ≠ .ms i 0 m 1
  low : ∀ i, i < N0 → H i = H0 i
  le : N0 ≤ N

theorem PH.push_t (h : PH H0 N0 H N vt vo tl ol) (hl : tl.length ≤ 100000) (x : Int) :
    ∃ H', aappend false 1 8 H N vt (.sl .exact 1 [[i64 x]]) = some (.ms N 0 (tl.length + 1) 1, H', N + 1) ∧ PH H0 N0 H' (N + 1) (.ms N 0 (tl.length + 1) 1) vo (tl ++ [x]) ol := by
  obtain ⟨H', h1, h2, h3, h4⟩ := own_push h.t h.f hl x
  have hle := h.le
  refine ⟨H', h1, h4, .inr ⟨N, [], hle, by simp, by rw [List.append_nil]; exact h2⟩, h.o.keep fun i n hv => h3 i ?_ fun n' hv' => h.ap i n' n hv' hv, fun i n m hv hv' => ?_, fun i hi => ?_, by omega⟩
  · have := (h.o.t.lt h.f i n hv).1; omega
  · cases hv
    have := (h.o.t.lt h.f _ _ hv').1; omega
  · rw [h3 i (by omega) fun n hv => by have := (h.t.lt h.f i n hv).2; omega]
    exact h.low i hi
theorem PH.push_o (h : PH H0 N0 H N vt vo tl ol) (hl : ol.length ≤ 100000) (x : Int) :
    ∃ H', aappend false 1 8 H N vo (.sl .exact 1 [[i64 x]]) = some (.ms N 0 (ol.length + 1) 1, H', N + 1) ∧ PH H0 N0 H' (N + 1) vt (.ms N 0 (ol.length + 1) 1) tl (ol ++ [x]) := by
  obtain ⟨H', h1, h2, h3, h4⟩ := own_push h.o.t h.f hl x
  have hle := h.le
  refine ⟨H', h1, h4, h.t.keep fun i n hv => h3 i ?_ fun n' hv' => h.ap i n n' hv hv', .inr ⟨by simp, N, hle, by simp, h2⟩, fun i n m hv hv' => ?_, fun i hi => ?_, by omega⟩
  · have := (h.t.lt h.f i n hv).1; omega
  · cases hv'
    have := (h.t.lt h.f _ _ hv).1; omega
  · rw [h3 i (by omega) fun n hv => by have := (h.o.t.lt h.f i n hv).2; omega]
    exact h.low i hi

/-- A row as a value. -/
def rv (l : List Int) : AV := bsl (.sl .nil 0 []) 1 (intCells l)
theorem rv_rd (l : List Int) (H : AHeap) : RdSl H 1 (intCells l) (rv l) := by
  cases l with
  | nil => exact .nil _ _
  | cons a l => exact .sl _
theorem rv_len (l : List Int) : alen 1 (rv l) = some (l.length : Int) := by
  have := (rv_rd l noHeap).len
  rwa [intCells_len] at this

/-- The frontiers as they are told, by rows. -/
structure Rows (fv : AV) (w : List (List Int)) : Prop where
  n : w.length ≤ 100
  len : alen 1 fv = some (w.length : Int)
  at_ : ∀ (b : Nat) (l : List Int), w[b]? = some l → aindex 1 fv (i64 b) = some (.ip [rv l] 0)
  ok : ∀ l ∈ w, l.length ≤ w.length ∧ ∀ v ∈ l, 0 ≤ v ∧ v < (w.length : Int)
def FB (w : List (List Int)) (b c : Nat) : Prop := ∃ l, w[b]? = some l ∧ (c : Int) ∈ l
theorem Rows.lt (h : Rows fv w) (b c : Nat) (hb : FB w b c) : b < w.length ∧ c < w.length := by
  obtain ⟨l, h1, h2⟩ := hb
  have := ((h.ok l (List.mem_of_getElem? h1)).2 _ h2).2
  exact ⟨(List.getElem?_eq_some_iff.1 h1).1, by omega⟩

/-- Those of a set that are blocks. -/
def inL (n : Nat) (l : List Int) : List Int := l.filter fun v => decide (0 ≤ v ∧ v < (n : Int))
theorem inL_len (n : Nat) (l : List Int) : (inL n l).length ≤ l.length := List.length_filter_le _ _

/-- Over the set. -/
structure PwS (H0 : AHeap) (N0 : Nat) (fv v : AV) (n : Nat) (ls : List Int) (k : Nat) (s : St) : Prop where
  ex : ∃ (j : Nat) (vt : AV), k = ls.length - j ∧ j ≤ ls.length ∧ s.A 5 = fv ∧ s.A 6 = vt ∧ s.A 7 = .sl .nil 0 [] ∧ s.A 16 = v ∧ s.A 17 = i64 ls.length ∧ s.A 18 = i64 j ∧ PH H0 N0 s.H s.N vt (.sl .nil 0 []) (inL n (ls.take j)) []

theorem placed_set (hW : Rows fv w) (hls : ls.length ≤ 2000) (hv : ∀ H : AHeap, (∀ i, i < N0 → H i = H0 i) → RdSl H 1 (intCells ls) v) (h5 : A 5 = fv) (h6 : A 6 = .sl .nil 0 []) (h7 : A 7 = .sl .nil 0 []) (h16 : A 16 = v) (h17 : A 17 = i64 ls.length) (h18 : A 18 = i64 0) (hF : Fresh H0 N0)
    (hk : ∀ (A' : Nat → AV) (H' : AHeap) (N' : Nat) (vt : AV), A' 5 = fv → A' 6 = vt → A' 7 = .sl .nil 0 [] → PH H0 N0 H' N' vt (.sl .nil 0 []) (inL w.length ls) [] → onward Try.prog fs Q (.exit 0) ⟨A', H', N'⟩) :
    run Try.prog (.loop a_front_Placedb3) fs Q ⟨A, H0, N0⟩ := by
  refine run_loop (PwS H0 N0 fv v w.length ls) ls.length ?_ ?_
  · exact ⟨0, .sl .nil 0 [], by omega, by omega, h5, h6, h7, h16, h17, h18, hF, .inl ⟨by simp [inL], rfl⟩, .inl ⟨rfl, rfl⟩, fun i n m h => (by cases h), fun _ _ => rfl, Nat.le_refl _⟩
  · rintro k A1 H1 N1 ⟨j, vt, hk', hj, e5, e6, e7, e16, e17, e18, hP⟩
    simp only at e5 e6 e7 e16 e17 e18 hP
    by_cases hjl : j = ls.length
    · subst hjl
      rw [List.take_length] at hP
      simp [a_front_Placedb3, e17, e18]
      exact hk _ _ _ vt (by simp [e5]) (by simp [e6]) (by simp [e7]) hP
    · have hlt : j < ls.length := by omega
      obtain ⟨p, hp, pp⟩ := (hv H1 hP.low).at (intCells_sz ls) (intCells_at hlt)
      have lp := pp.one
      have hfl := hW.len
      have wr : IntKind.i64.wrap ((j : Int) + 1) = ((j + 1 : Nat) : Int) := by rw [wrap_i64 (by omega) (by omega)]; rfl
      have hnx : inL w.length (ls.take (j + 1)) = inL w.length (ls.take j) ++ (if 0 ≤ ls[j] ∧ ls[j] < (w.length : Int) then [ls[j]] else []) := by
        rw [Go.Fw.take_next hlt]
        simp only [inL, List.filter_append]
        congr 1
        by_cases h : 0 ≤ ls[j] ∧ ls[j] < (w.length : Int) <;> simp [h]
      have hil := inL_len w.length (ls.take j)
      rw [List.length_take] at hil
      by_cases hin : 0 ≤ ls[j] ∧ ls[j] < (w.length : Int)
      · rw [if_pos hin] at hnx
        obtain ⟨H2, hap, hP2⟩ := hP.push_t (by omega) ls[j]
        simp [a_front_Placedb3, e5, e6, e16, e17, e18, hlt, hp, lp, hfl, hin, hap, wr, -aload, -alen]
        exact ⟨ls.length - (j + 1), by omega, ⟨j + 1, .ms N1 0 ((inL w.length (ls.take j)).length + 1) 1, rfl, by omega, by simp [e5], by simp, by simp [e7], by simp [e16], by simp [e17], by simp, by rw [hnx]; exact hP2⟩⟩
      · rw [if_neg hin, List.append_nil] at hnx
        by_cases h0 : 0 ≤ ls[j]
        · have h1 : ¬ ls[j] < (w.length : Int) := fun h => hin ⟨h0, h⟩
          simp [a_front_Placedb3, e5, e6, e16, e17, e18, hlt, hp, lp, hfl, h0, h1, wr, -aload, -alen]
          exact ⟨ls.length - (j + 1), by omega, ⟨j + 1, vt, rfl, by omega, by simp [e5], by simp [e6], by simp [e7], by simp [e16], by simp [e17], by simp, by rw [hnx]; exact hP⟩⟩
        · simp [a_front_Placedb3, e5, e6, e16, e17, e18, hlt, hp, lp, hfl, h0, wr, -aload, -alen]
          exact ⟨ls.length - (j + 1), by omega, ⟨j + 1, vt, rfl, by omega, by simp [e5], by simp [e6], by simp [e7], by simp [e16], by simp [e17], by simp, by rw [hnx]; exact hP⟩⟩
end

end Go.Proofs.Ytmbbklddjkmcmaa
