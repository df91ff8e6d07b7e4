/- code: pieces of the law CodeParts. -/
import Derived.Test.YtanpcmkhhpaeiaaDoorNX
namespace Go.Proofs.YtanpcmkhhpaeiaaDoor
set_option linter.unusedSimpArgs false
set_option linter.unusedVariables false
open Go Go.Fw

theorem turnL_head {l : List FunV} (s0 s1 : ByteArray) (h : 2 ≤ l.length) : ∃ g r, turnL l s0 s1 = g :: r ∧ g.name = s1 := by
  rcases split_ends l (by omega) with ⟨x, rfl⟩ | ⟨x, m, y, rfl⟩
  · simp at h
  · exact ⟨_, _, turnL_two x y m s0 s1, rfl⟩
theorem turnL_len (l : List FunV) (s0 s1 : ByteArray) : (turnL l s0 s1).length = l.length := by simp [turnL, nmL_len]

/-- Names turned about: the same program only where there is but one. -/
theorem same_turn {p : PrgV} (hp : prgB p = true) {n : Nat} {f a b : FunV} {kd kd' : SK} (hf : p.funs[n]? = some f) (ha : p.funs[0]? = some a) (hb : p.funs[p.funs.length - 1]? = some b) :
    samePrg p { p with fk := kd, funs := turnL (p.funs.set n { f with k := kd' }) a.name b.name } = decide (p.funs.length - 1 = 0) := by
  have hn : n < p.funs.length := (List.getElem?_eq_some_iff.1 hf).1
  have h0 : 0 < p.funs.length := by omega
  unfold samePrg
  simp only
  rw [eqvL_refl (r := memE) (by intro x; simp [memE]), eqvL_refl (r := strE) (by intro x; simp [strE]), Bool.true_and, Bool.true_and]
  by_cases h1 : p.funs.length - 1 = 0
  · rw [decide_eq_true h1]
    have hl1 : p.funs.length = 1 := by omega
    obtain ⟨y, hy⟩ := List.length_eq_one_iff.1 hl1
    rw [hy] at hf ha ⊢
    have hn0 : n = 0 := by omega
    subst hn0
    simp at hf ha
    subst hf; subst ha
    simp [turnL, nmL, eqvL, sameFun, eqvL_refl sameIns_refl]
    exact (Bool.eq_iff_iff.1 (eqvL_refl sameIns_refl y.code)).2 rfl |> fun h => by simpa [eqvL] using h
  · rw [decide_eq_false h1]
    have hne : a.name ≠ b.name := by
      unfold prgB namedB at hp
      simp only [Bool.and_eq_true, decide_eq_true_eq] at hp
      have hnd := hp.1.2.1
      have hnd2 : (p.funs.map FunV.name).Nodup := by
        unfold PrgV.names at hnd
        exact (List.nodup_append.1 hnd).2.1
      rcases split_ends p.funs (by omega) with ⟨x, hx⟩ | ⟨x, m, y, hx⟩
      · rw [hx] at h1; simp at h1
      · rw [hx] at ha hb hnd2
        simp at ha
        have e : (x :: (m ++ [y]))[(x :: (m ++ [y])).length - 1]? = some y := by simp
        rw [e] at hb
        cases hb
        subst ha
        simp only [List.map_cons, List.map_append, List.map_nil, List.nodup_cons] at hnd2
        intro he
        exact hnd2.1 (by rw [he]; simp)
    obtain ⟨g, r, hg, hgn⟩ := turnL_head (l := p.funs.set n { f with k := kd' }) a.name b.name (by simp; omega)
    rw [hg]
    refine Bool.eq_false_iff.2 fun h => ?_
    have := (eqvL_iff.1 h).2 0 h0 (by simp)
    have hae : p.funs[0] = a := (List.getElem?_eq_some_iff.1 ha).2
    rw [hae] at this
    simp only [List.getElem_cons_zero, sameFun, Bool.and_eq_true, decide_eq_true_eq] at this
    exact hne (this.1.1.trans hgn)

/-- Cells that are told by values, one by one. -/
def PW (H : AHeap) (cs ds : List AV) : Prop := cs.length = ds.length ∧ ∀ (i : Nat) (c d : AV), cs[i]? = some c → ds[i]? = some d → View H c d
theorem PW.refl {H : AHeap} {cs : List AV} (h : freeL cs = true) : PW H cs cs := ⟨rfl, fun i c d hc hd => by rw [hc] at hd; cases hd; exact .free (freeL_get h hc)⟩
theorem PW.set {H : AHeap} {cs ds : List AV} (h : PW H cs ds) (i : Nat) {a b : AV} (hv : View H a b) : PW H (cs.set i a) (ds.set i b) := by
  refine ⟨by simp [h.1], fun j c d hc hd => ?_⟩
  rw [List.getElem?_set] at hc hd
  split at hc
  · rename_i e
    rw [if_pos e] at hd
    split at hc
    · cases hc
      split at hd
      · cases hd; exact hv
      · cases hd
    · cases hc
  · rename_i e
    rw [if_neg e] at hd
    exact h.2 j c d hc hd
theorem PW.view {H : AHeap} {o1 n sz : Nat} {cs : List AV} {es : List (List AV)} (h : PW H cs es.flatten) (hs : ∀ x ∈ es, x.length = sz) (hn : es.length = n) (ho : H o1 = some (.blk cs)) : View H (.ms o1 0 n sz) (.sl .any sz es) := by
  have hl := h.1
  rw [flatten_len hs, hn] at hl
  have k := View.ms (H := H) (id := o1) (off := 0) (len := n) (sz := sz) (cs := cs) (ds := es.flatten) ho (by omega) h.1 h.2
  rw [List.drop_zero, ← hn, Go.Fw.chunks_flatten hs] at k
  rw [← hn]
  exact k

theorem nm_flat {l : List FunV} {j : Nat} (s : ByteArray) (hj : j < l.length) : (funCells l).flatten.set (j * 5) (str s) = (funCells (nmL l j s)).flatten := by
  have h := flat_set (c := 0) (v := str s) (show 0 < 5 by omega) (funCells_sz' l) (k := j) (by rw [funCells_len']; exact hj)
  rw [Nat.add_zero] at h
  rw [h]
  congr 1
  have e : (funCells l)[j]'(by rw [funCells_len']; exact hj) = l[j].cells := by simp [funCells]
  rw [e]
  unfold funCells nmL
  refine List.ext_getElem? fun i => ?_
  rw [List.getElem?_set, List.getElem?_map, List.getElem?_map, List.getElem?_modify]
  by_cases hij : j = i
  · subst hij
    simp [hj]
    rfl
  · simp [hij]

theorem code_flat {l : List FunV} {n : Nat} {f : FunV} {kd : SK} {c : List Ins} (hf : l[n]? = some f) : (funCells l).flatten.set (n * 5 + 4) (.sl kd 6 (codeCells c)) = (funCells (l.set n { f with k := kd, code := c })).flatten := by
  obtain ⟨hn, hfe⟩ := List.getElem?_eq_some_iff.1 hf
  have h := flat_set (c := 4) (v := .sl kd 6 (codeCells c)) (show 4 < 5 by omega) (funCells_sz' l) (k := n) (by rw [funCells_len']; exact hn)
  have e : (funCells l)[n]'(by rw [funCells_len']; exact hn) = f.cells := by simp [funCells, hfe]
  rw [h, e]
  congr 1
  simp only [funCells, List.map_set]
  rfl
end Go.Proofs.YtanpcmkhhpaeiaaDoor
