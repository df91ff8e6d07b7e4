/- Library, part 2: lists of numbers; pieces of code that are hidden. -/
import Derived.Test.YtmgmgeijfkcglaaH7
namespace Go.Fw
set_option linter.unusedSimpArgs false
set_option linter.unusedVariables false
open Go
set_option linter.unusedSectionVars false

variable [Globals]

def intCells (l : List Int) : List (List AV) := l.map fun v => [i64 v]
theorem intCells_len (l : List Int) : (intCells l).length = l.length := by simp [intCells]
theorem intCells_sz (l : List Int) : ∀ x ∈ intCells l, x.length = 1 := fun x hx => by
  obtain ⟨v, _, rfl⟩ := List.mem_map.1 hx; rfl
theorem intCells_free (l : List Int) : freeLL (intCells l) = true := freeLL_map _ l (fun _ _ => rfl)
theorem intCells_app (l r : List Int) : intCells (l ++ r) = intCells l ++ intCells r := by simp [intCells]
theorem intCells_at {l : List Int} {i : Nat} (h : i < l.length) : (intCells l)[i]? = some [i64 l[i]] := by simp [intCells, h]
theorem intCells_flat (l : List Int) : (intCells l).flatten = l.map i64 := by
  induction l with
  | nil => rfl
  | cons a l ih => simp only [intCells, List.map_cons, List.flatten_cons] at ih ⊢; rw [ih]; rfl

theorem take_next {α : Type} {l : List α} {j : Nat} (h : j < l.length) : l.take (j + 1) = l.take j ++ [l[j]] := by
  rw [List.take_add_one]; simp [h]

theorem aload_ip (H : AHeap) (cs : List AV) (off : Nat) : aload H false 1 (.ip cs off) = cs[off]? := rfl

theorem aindex_sl {k : SK} {sz : Nat} {es : List (List AV)} {x : List AV} {n : Int} (h0 : 0 ≤ n) (h : es[n.toNat]? = some x) : aindex sz (.sl k sz es) (i64 n) = some (.ip x 0) := by
  have hlt : n.toNat < es.length := (List.getElem?_eq_some_iff.1 h).1
  have hx : es[n.toNat] = x := (List.getElem?_eq_some_iff.1 h).2
  simp [aindex, h0, show n < es.length by omega, hx]

theorem elem_of {α : Type} {f : α → List AV} {l : List α} {k : SK} {z j : Nat} (h : j < l.length) : aindex z (.sl k z (l.map f)) (i64 j) = some (.ip (f l[j]) 0) :=
  aindex_sl (by omega) (by simp [h])

theorem asrc_one (H : AHeap) (v : Int) : asrc H 1 (.sl .exact 1 [[i64 v]]) = some ((intCells [v]).flatten, [v].length) := rfl

section
variable {H H' : AHeap} {N lo sz : Nat} {v y z : AV} {l ns : List Int}

theorem built_later {es : List (List AV)} (h : Built H lo sz z es v) (hF : Fresh H N) (hk : ∀ j, j < N → H' j = H j) : Built H' lo sz z es v := by
  obtain ⟨b1, b2⟩ := h
  refine ⟨b1, b2.imp id ?_⟩
  rintro ⟨hne, id, hid, rfl, hH⟩
  exact ⟨hne, id, hid, rfl, by rw [hk id (hF.lt hH), hH]⟩

theorem app_ints (hB : Built H lo 1 z (intCells l) v) (hF : Fresh H N) (hlo : lo ≤ N) (hy : asrc H 1 y = some ((intCells ns).flatten, ns.length)) (hl : l.length + ns.length ≤ 1000000000000) :
    ∃ v' H' N', aappend false 1 8 H N v y = some (v', H', N') ∧ Built H' lo 1 z (intCells (l ++ ns)) v' ∧ (∀ j, j < lo → H' j = H j) ∧ N ≤ N' ∧ Fresh H' N' := by
  rw [intCells_app]
  exact hB.append hF hlo (by rw [hy, intCells_len]) (intCells_sz ns) (by rw [intCells_len, intCells_len]; unfold lim; omega) (by rw [intCells_len, intCells_len]; omega)

theorem app_nil (hF : Fresh H N) (hy : asrc H 1 y = some ((intCells ns).flatten, ns.length)) (hl : ns.length ≤ 1000000000000) :
    ∃ v' H' N', aappend false 1 8 H N (.sl .nil 0 []) y = some (v', H', N') ∧ Built H' N 1 (.sl .nil 0 []) (intCells ns) v' ∧ (∀ j, j < N → H' j = H j) ∧ N ≤ N' ∧ Fresh H' N' := by
  have := app_ints (l := []) (lo := N) (z := .sl .nil 0 []) (v := .sl .nil 0 []) (H := H) Built.nil hF (Nat.le_refl _) hy (by simpa using hl)
  simpa using this

theorem bsl_ints (k : SK) (n : Nat) (l : List Int) : ∃ k' z, bsl (.sl k n []) 1 (intCells l) = .sl k' z (intCells l) ∧ (z = 1 ∨ l = []) := by
  cases l with
  | nil => exact ⟨_, _, rfl, .inr rfl⟩
  | cons a l => exact ⟨_, _, rfl, .inl rfl⟩
end

/-- A row of numbers, as a value. -/
structure RowV where
  k : SK
  z : Nat
  l : List Int
def RowV.av (r : RowV) : AV := .sl r.k r.z (intCells r.l)
structure RowV.Ok (r : RowV) : Prop where
  hz : r.z = 1 ∨ r.l = []
  hl : r.l.length ≤ maxLen
theorem RowV.Ok.rd {r : RowV} (h : r.Ok) (H : AHeap) : RdSl H 1 (intCells r.l) r.av := .inl ⟨_, _, rfl, h.hz.imp id fun h => by rw [h]; rfl⟩
theorem RowV.free (r : RowV) : r.av.free = true := by simp [RowV.av, AV.free, intCells_free]
theorem RowV.cells (r : RowV) : r.av.cells = some [r.av] := rfl

end Go.Fw
