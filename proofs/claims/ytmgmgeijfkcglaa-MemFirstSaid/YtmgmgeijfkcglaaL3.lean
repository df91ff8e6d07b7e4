/- Library, part 3: rows of slices that grow, each on its own. -/
import Derived.Test.YtmgmgeijfkcglaaL2
namespace Go.Fw
set_option linter.unusedSimpArgs false
set_option linter.unusedVariables false
open Go
set_option linter.unusedSectionVars false
variable [Globals]

section
variable {H : AHeap} {N lo o : Nat} {cs : List AV} {w : List (List Int)} {l : List Int} {c : Nat}

/-- One more: just what changes. -/
theorem push_raw {sz bytes : Nat} {z : AV} {es : List (List AV)} {x : List AV} {v : AV} {k : SK} (h : Built H lo sz z es v) (hf : Fresh H N) (hlo : lo ≤ N) (hx : x.length = sz) (hlim : (es.length + 1) * bytes ≤ lim) (hlim2 : es.length + 1 ≤ 9223372036854775807) :
    ∃ H', aappend false sz bytes H N v (.sl k sz [x]) = some (.ms N 0 (es.length + 1) sz, H', N + 1) ∧ H' N = some (.blk (es ++ [x]).flatten) ∧ (∀ j, j ≠ N → (∀ n, v ≠ .ms j 0 n sz) → H' j = H j) ∧ Fresh H' (N + 1) ∧ Built H' lo sz z (es ++ [x]) (.ms N 0 (es.length + 1) sz) := by
  obtain ⟨hs, hv⟩ := h
  have hall : ∀ y ∈ es ++ [x], y.length = sz := fun y hy => (List.mem_append.1 hy).elim (hs y) (fun h => by rw [List.mem_singleton.1 h]; exact hx)
  have hfl : (es ++ [x]).flatten = es.flatten ++ x := by simp
  have hsrc : asrc H sz (.sl k sz [x]) = some (x, 1) := by simp [asrc]
  rcases hv with ⟨rfl, rfl, hz⟩ | ⟨hne, id, hid, rfl, hH⟩
  · refine ⟨H.set N (.blk x), ?_, by simp [AHeap.set], fun j hj _ => by simp only [AHeap.set]; rw [if_neg hj], hf.set _, by simpa using hx, .inr ⟨by simp, N, hlo, by simp, by simp [AHeap.set]⟩⟩
    simp at hlim hlim2
    rcases hz with ⟨k, rfl⟩ | ⟨k, rfl⟩ <;> simp [aappend, hsrc, hlim, -asrc]
  · have hidN : id < N := hf.lt hH
    refine ⟨(H.del id).set N (.blk (es.flatten ++ x)), ?_, by simp [AHeap.set], fun j hj hv => ?_, ?_, hall, .inr ⟨by simp, N, hlo, by simp, by simp [AHeap.set]⟩⟩
    · have hfl := flatten_len hs
      simp only [aappend, hsrc, hH]
      have hc : True ∧ 0 + es.length * sz ≤ es.flatten.length ∧ (es.length + 1) * bytes ≤ lim ∧ es.length + 1 ≤ 9223372036854775807 := ⟨trivial, by omega, hlim, hlim2⟩
      rw [if_pos hc, List.drop_zero, ← hfl, List.take_length]
    · have hji : j ≠ id := fun he => by subst he; exact hv _ rfl
      simp only [AHeap.set, AHeap.del]; rw [if_neg hj, if_neg hji]
    · intro j hj
      simp only [AHeap.set, AHeap.del]
      rw [if_neg (by omega)]
      split
      · rfl
      · exact hf j (by omega)

/-- A row of slices of numbers, each of its own. -/
structure RowsAt (H : AHeap) (lo o : Nat) (w : List (List Int)) (cs : List AV) : Prop where
  at_ : H o = some (.blk cs)
  len : cs.length = w.length
  olo : o < lo
  row : ∀ (c : Nat) (l : List Int) (a : AV), w[c]? = some l → cs[c]? = some a → Built H lo 1 (.sl .nil 0 []) (intCells l) a
  apart : ∀ (c c' id n n' : Nat), cs[c]? = some (.ms id 0 n 1) → cs[c']? = some (.ms id 0 n' 1) → c = c'

theorem RowsAt.start (n : Nat) (h : H o = some (.blk (List.replicate n (.sl .nil 0 [])))) (ho : o < lo) : RowsAt H lo o (List.replicate n []) (List.replicate n (.sl .nil 0 [])) where
  at_ := h
  len := by simp
  olo := ho
  row := fun c l a h1 h2 => by
    have e1 := List.mem_of_getElem? h1
    have e2 := List.mem_of_getElem? h2
    rw [List.eq_of_mem_replicate e1, List.eq_of_mem_replicate e2]
    exact Built.nil
  apart := fun c c' id n1 n2 h1 h2 => by
    have e1 := List.eq_of_mem_replicate (List.mem_of_getElem? h1)
    cases e1

theorem RowsAt.keep {H' : AHeap} (h : RowsAt H lo o w cs) (hk : ∀ j, (j = o ∨ lo ≤ j) → H' j = H j) : RowsAt H' lo o w cs where
  at_ := by rw [hk o (.inl rfl)]; exact h.at_
  len := h.len
  olo := h.olo
  row := fun c l a h1 h2 => (h.row c l a h1 h2).keep fun j hj => hk j (.inr hj)
  apart := h.apart

/-- One more in a row. -/
theorem RowsAt.push (h : RowsAt H lo o w cs) (hF : Fresh H N) (hlo : lo ≤ N) (hc : w[c]? = some l) (hl : l.length ≤ 1000000000000) (v : Int) :
    ∃ a H', cs[c]? = some a ∧ a.cells = some [a] ∧ aappend false 1 8 H N a (.sl .exact 1 [[i64 v]]) = some (.ms N 0 (l.length + 1) 1, H', N + 1) ∧ H' o = some (.blk cs) ∧ (∀ j, j < lo → H' j = H j) ∧ Fresh H' (N + 1) ∧
      RowsAt (H'.set o (.blk (cs.set c (.ms N 0 (l.length + 1) 1)))) lo o (w.set c (l ++ [v])) (cs.set c (.ms N 0 (l.length + 1) 1)) := by
  have hcw : c < w.length := (List.getElem?_eq_some_iff.1 hc).1
  have hcl : c < cs.length := by rw [h.len]; exact hcw
  have ha : cs[c]? = some cs[c] := List.getElem?_eq_getElem hcl
  have hB := h.row c l _ hc ha
  obtain ⟨H', happ, hN, hold, hF', hB'⟩ := push_raw (bytes := 8) (k := .exact) (x := [i64 v]) hB hF hlo rfl (by rw [intCells_len]; unfold lim; omega) (by rw [intCells_len]; omega)
  rw [intCells_len] at happ hB'
  have hlow : ∀ j, j < lo → H' j = H j := fun j hj => hold j (by omega) fun n he => by
    rw [he] at hB
    obtain ⟨_, ⟨_, h2, _⟩ | ⟨_, id, hid, h2, _⟩⟩ := hB
    · cases h2
    · cases h2; omega
  have hoN : o ≠ N := by have := h.olo; omega
  refine ⟨cs[c], H', ha, hB.rd.cells, happ, (hlow o h.olo).trans h.at_, hlow, hF', ⟨by simp [AHeap.set], by simp [h.len], h.olo, fun c' l' a' h1 h2 => ?_, fun c1 c2 id n n' h1 h2 => ?_⟩⟩
  · have keep : ∀ {es : List (List AV)} {x : AV}, Built H' lo 1 (.sl .nil 0 []) es x → Built (H'.set o (.blk (cs.set c (.ms N 0 (l.length + 1) 1)))) lo 1 (.sl .nil 0 []) es x := fun hb => hb.keep fun j hj => by
      have := h.olo
      simp only [AHeap.set]; rw [if_neg (by omega)]
    rw [List.getElem?_set] at h1 h2
    by_cases hcc : c = c'
    · subst hcc
      rw [if_pos rfl, if_pos hcw] at h1
      rw [if_pos rfl, if_pos hcl] at h2
      cases h1; cases h2
      rw [intCells_app]
      exact keep hB'
    · rw [if_neg hcc] at h1 h2
      have hb := h.row c' l' a' h1 h2
      refine keep ?_
      obtain ⟨b1, b2⟩ := hb
      refine ⟨b1, b2.imp id ?_⟩
      rintro ⟨hne, i, hi, rfl, hHi⟩
      refine ⟨hne, i, hi, rfl, ?_⟩
      rw [hold i (by have := hF.lt hHi; omega) fun n he => ?_]
      · exact hHi
      · rw [he] at ha
        exact hcc (h.apart c c' i n _ ha h2)
  · rw [List.getElem?_set] at h1 h2
    have hnoN : ∀ (c' n : Nat), cs[c']? ≠ some (.ms N 0 n 1) := fun c' n he => by
      have hcl' : c' < w.length := by rw [← h.len]; exact (List.getElem?_eq_some_iff.1 he).1
      have hb := h.row c' w[c'] _ (List.getElem?_eq_getElem hcl') he
      obtain ⟨_, ⟨_, h2, _⟩ | ⟨_, i, _, h2, h3⟩⟩ := hb
      · cases h2
      · cases h2; have := hF.lt h3; omega
    by_cases e1 : c = c1
    · by_cases e2 : c = c2
      · exact e1.symm.trans e2
      · subst e1
        rw [if_pos rfl, if_pos hcl] at h1
        rw [if_neg e2] at h2
        cases h1
        exact absurd h2 (hnoN _ _)
    · by_cases e2 : c = c2
      · subst e2
        rw [if_neg e1] at h1
        rw [if_pos rfl, if_pos hcl] at h2
        cases h2
        exact absurd h1 (hnoN _ _)
      · rw [if_neg e1] at h1
        rw [if_neg e2] at h2
        exact h.apart c1 c2 id n n' h1 h2

/-- What the rows read as when nobody writes them any more. -/
def rowsV (w : List (List Int)) : List (List AV) := w.map fun l => [bsl (.sl .nil 0 []) 1 (intCells l)]
theorem rowsV_len (w : List (List Int)) : (rowsV w).length = w.length := by simp [rowsV]

theorem rowsV_flat (w : List (List Int)) : (w.map fun l => bsl (.sl .nil 0 []) 1 (intCells l)) = (rowsV w).flatten := by
  induction w with
  | nil => rfl
  | cons a w ih => simp only [rowsV, List.map_cons, List.flatten_cons] at ih ⊢; rw [ih]; rfl

theorem RowsAt.view (h : RowsAt H lo o w cs) : View H (.ms o 0 w.length 1) (.sl .any 1 (rowsV w)) := by
  have hv : ViewL H cs (w.map fun l => bsl (.sl .nil 0 []) 1 (intCells l)) := by
    refine ⟨by simp [h.len], fun i a b ha hb => ?_⟩
    rw [List.getElem?_map, Option.map_eq_some_iff] at hb
    obtain ⟨l, hl, rfl⟩ := hb
    exact (h.row i l a hl ha).view (intCells_free l)
  have := View.ms' (H := H) (sz := 1) (len := w.length) h.at_ (by rw [h.len]; omega) hv
  have hch : chunks 1 w.length (w.map fun l => bsl (.sl .nil 0 []) 1 (intCells l)) = rowsV w := by
    have := chunks_flatten (sz := 1) (es := rowsV w) (fun x hx => by
      obtain ⟨l, _, rfl⟩ := List.mem_map.1 hx; rfl)
    rw [rowsV_len] at this
    rw [← this]
    congr 1
    exact rowsV_flat w
  rw [hch] at this
  exact this
end
end Go.Fw
