/- bytes: operations, units and images, as values. -/
import Derived.Test.YtefejpckppabpaaGreatDoorNK
namespace Go.Proofs.YtefejpckppabpaaGreatDoor
set_option linter.unusedSimpArgs false
set_option linter.unusedVariables false
open Go Go.Fw

structure OpV where
  code : Int
  n : Int
def OpV.cells (x : OpV) : List AV := [u8 x.code, i64 x.n]
def opsCells (l : List OpV) : List (List AV) := l.map OpV.cells
structure UnitV where
  name : ByteArray
  thread : Bool
  params : Int
  slots : Int
  depth : Int
  k : SK
  ops : List OpV
def UnitV.cells (x : UnitV) : List AV := [str x.name, bl x.thread, i64 x.params, i64 x.slots, i64 x.depth, .sl x.k 2 (opsCells x.ops)]
def unitCells (l : List UnitV) : List (List AV) := l.map UnitV.cells
structure ImgV where
  mmk : SK
  mems : List MemV
  lk : SK
  locks : List ByteArray
  uk : SK
  units : List UnitV
def ImgV.cells (x : ImgV) : List AV := [.sl x.mmk 3 (memCells x.mems), .sl x.lk 1 (lockCells x.locks), .sl x.uk 6 (unitCells x.units)]
theorem OpV.len (x : OpV) : x.cells.length = 2 := rfl
theorem OpV.c0 (x : OpV) : x.cells[0]? = some (u8 x.code) := rfl
theorem OpV.g0 (x : OpV) (h : 0 < x.cells.length) : x.cells[0] = u8 x.code := rfl
theorem OpV.c1 (x : OpV) : x.cells[1]? = some (i64 x.n) := rfl
theorem OpV.g1 (x : OpV) (h : 1 < x.cells.length) : x.cells[1] = i64 x.n := rfl
theorem OpV.drop (x : OpV) : List.take 2 x.cells = x.cells := rfl
theorem opsCells_len (l : List OpV) : (opsCells l).length = l.length := by simp [opsCells]
theorem opsCells_sz (l : List OpV) : ∀ x ∈ opsCells l, x.length = 2 := fun x hx => by
  obtain ⟨v, _, rfl⟩ := List.mem_map.1 hx; rfl
theorem opsCells_at {l : List OpV} {i : Nat} {x : OpV} (h : l[i]? = some x) : (opsCells l)[i]? = some x.cells := by simp [opsCells, h]
theorem UnitV.len (x : UnitV) : x.cells.length = 6 := rfl
theorem UnitV.c0 (x : UnitV) : x.cells[0]? = some (str x.name) := rfl
theorem UnitV.g0 (x : UnitV) (h : 0 < x.cells.length) : x.cells[0] = str x.name := rfl
theorem UnitV.c1 (x : UnitV) : x.cells[1]? = some (bl x.thread) := rfl
theorem UnitV.g1 (x : UnitV) (h : 1 < x.cells.length) : x.cells[1] = bl x.thread := rfl
theorem UnitV.c2 (x : UnitV) : x.cells[2]? = some (i64 x.params) := rfl
theorem UnitV.g2 (x : UnitV) (h : 2 < x.cells.length) : x.cells[2] = i64 x.params := rfl
theorem UnitV.c3 (x : UnitV) : x.cells[3]? = some (i64 x.slots) := rfl
theorem UnitV.g3 (x : UnitV) (h : 3 < x.cells.length) : x.cells[3] = i64 x.slots := rfl
theorem UnitV.c4 (x : UnitV) : x.cells[4]? = some (i64 x.depth) := rfl
theorem UnitV.g4 (x : UnitV) (h : 4 < x.cells.length) : x.cells[4] = i64 x.depth := rfl
theorem UnitV.c5 (x : UnitV) : x.cells[5]? = some (.sl x.k 2 (opsCells x.ops)) := rfl
theorem UnitV.g5 (x : UnitV) (h : 5 < x.cells.length) : x.cells[5] = .sl x.k 2 (opsCells x.ops) := rfl
theorem UnitV.drop (x : UnitV) : List.take 6 x.cells = x.cells := rfl
theorem unitCells_len (l : List UnitV) : (unitCells l).length = l.length := by simp [unitCells]
theorem unitCells_sz (l : List UnitV) : ∀ x ∈ unitCells l, x.length = 6 := fun x hx => by
  obtain ⟨v, _, rfl⟩ := List.mem_map.1 hx; rfl
theorem unitCells_at {l : List UnitV} {i : Nat} {x : UnitV} (h : l[i]? = some x) : (unitCells l)[i]? = some x.cells := by simp [unitCells, h]
theorem ImgV.len (x : ImgV) : x.cells.length = 3 := rfl
theorem ImgV.c0 (x : ImgV) : x.cells[0]? = some (.sl x.mmk 3 (memCells x.mems)) := rfl
theorem ImgV.g0 (x : ImgV) (h : 0 < x.cells.length) : x.cells[0] = .sl x.mmk 3 (memCells x.mems) := rfl
theorem ImgV.c1 (x : ImgV) : x.cells[1]? = some (.sl x.lk 1 (lockCells x.locks)) := rfl
theorem ImgV.g1 (x : ImgV) (h : 1 < x.cells.length) : x.cells[1] = .sl x.lk 1 (lockCells x.locks) := rfl
theorem ImgV.c2 (x : ImgV) : x.cells[2]? = some (.sl x.uk 6 (unitCells x.units)) := rfl
theorem ImgV.g2 (x : ImgV) (h : 2 < x.cells.length) : x.cells[2] = .sl x.uk 6 (unitCells x.units) := rfl
theorem ImgV.drop (x : ImgV) : List.take 3 x.cells = x.cells := rfl
attribute [simp] OpV.len OpV.c0 OpV.g0 OpV.c1 OpV.g1 OpV.drop opsCells_len UnitV.len UnitV.c0 UnitV.g0 UnitV.c1 UnitV.g1 UnitV.c2 UnitV.g2 UnitV.c3 UnitV.g3 UnitV.c4 UnitV.g4 UnitV.c5 UnitV.g5 UnitV.drop unitCells_len ImgV.len ImgV.c0 ImgV.g0 ImgV.c1 ImgV.g1 ImgV.c2 ImgV.g2 ImgV.drop

/-- How large all parts may be. -/
structure UnitV.Ok (u : UnitV) : Prop where
  nm : u.name.size ≤ 140737488355328
  ol : u.ops.length ≤ 140737488355328
  op : ∀ o ∈ u.ops, 0 ≤ o.code ∧ o.code < 256
structure ImgV.Ok (m : ImgV) : Prop where
  ml : m.mems.length ≤ 140737488355328
  ll : m.locks.length ≤ 140737488355328
  ul : m.units.length ≤ 140737488355328
  mn : ∀ x ∈ m.mems, x.name.size ≤ 140737488355328
  ln : ∀ s ∈ m.locks, s.size ≤ 140737488355328
  ok : ∀ u ∈ m.units, u.Ok
end Go.Proofs.YtefejpckppabpaaGreatDoor

/- bytes: heights of a stack, by whatever way they are reckoned: plain laws. -/
namespace Go.Proofs.YtefejpckppabpaaGreatDoor
set_option linter.unusedSimpArgs false
set_option linter.unusedVariables false
open Go Go.Fw

/-- Operations: what they pop and push, to which ones one goes; how high a stack may be. -/
structure Stk where
  n : Nat
  pop : Nat → Int
  push : Nat → Int
  nx : Nat → List Nat
  D : Int
def Stk.fits (M : Stk) (a : Nat) (h : Int) : Prop := 0 ≤ h - M.pop a ∧ h ≤ M.D ∧ h - M.pop a + M.push a ≤ M.D
/-- One comes to an operation with so high a stack. -/
inductive Stk.Comes (M : Stk) : Nat → Int → Prop
  | start : M.Comes 0 0
  | step {a b : Nat} {h : Int} : M.Comes a h → M.fits a h → b ∈ M.nx a → M.Comes b (h - M.pop a + M.push a)
def Stk.Good (M : Stk) : Prop := (∀ a h, M.Comes a h → M.fits a h) ∧ ∀ a h h', M.Comes a h → M.Comes a h' → h = h'
open Classical in
noncomputable def Stk.goodB (M : Stk) : Bool := decide M.Good
theorem Stk.good_t {M : Stk} (h : M.Good) : M.goodB = true := by unfold Stk.goodB; exact @decide_eq_true _ (_) h
theorem Stk.good_f {M : Stk} (h : ¬ M.Good) : M.goodB = false := by unfold Stk.goodB; exact @decide_eq_false _ (_) h
open Classical in
noncomputable def Stk.outL (M : Stk) : List Int := (List.range M.n).map fun a => if h : ∃ v, M.Comes a v then h.choose else -1
/-- Which operations lie where. -/
structure Stk.Ok (M : Stk) : Prop where
  pos : 0 < M.n
  push : ∀ a, 0 ≤ M.push a
  nx : ∀ a, a < M.n → ∀ b ∈ M.nx a, b < M.n
/-- Heights under way. -/
structure Stk.Way (M : Stk) (out : List Int) (done : Nat → Prop) : Prop where
  len : out.length = M.n
  zero : out[0]? = some 0
  neg : ∀ (a : Nat) (v : Int), out[a]? = some v → v < 0 → v = -1
  comes : ∀ (a : Nat) (v : Int), out[a]? = some v → 0 ≤ v → M.Comes a v
  done_ : ∀ a, done a → ∃ v, out[a]? = some v ∧ 0 ≤ v ∧ M.fits a v ∧ ∀ b ∈ M.nx a, out[b]? = some (v - M.pop a + M.push a)
theorem Stk.Way.start {M : Stk} (h : M.Ok) : M.Way ((List.replicate M.n (-1)).set 0 0) fun _ => False where
  len := by simp
  zero := by have := h.pos; rw [List.getElem?_set_self (by simpa using this)]
  neg := fun a v ha hv => by
    by_cases h0 : a = 0
    · subst h0
      rw [List.getElem?_set_self (by simpa using h.pos)] at ha
      cases ha; omega
    · rw [List.getElem?_set_ne (by omega)] at ha
      exact List.eq_of_mem_replicate (List.mem_of_getElem? ha)
  comes := fun a v ha hv => by
    by_cases h0 : a = 0
    · subst h0
      rw [List.getElem?_set_self (by simpa using h.pos)] at ha
      cases ha; exact .start
    · rw [List.getElem?_set_ne (by omega)] at ha
      have := List.eq_of_mem_replicate (List.mem_of_getElem? ha)
      omega
  done_ := fun a ha => ha.elim
theorem Stk.Comes.nonneg {M : Stk} (hk : M.Ok) {a : Nat} {v : Int} (h : M.Comes a v) : 0 ≤ v := by
  induction h with
  | start => omega
  | @step a b v hv hf hb ih => have := hf.1; have := hk.push a; omega
/-- When all that were come to are done, these are the heights. -/
theorem Stk.Way.end_ {M : Stk} (hk : M.Ok) {out : List Int} {done : Nat → Prop} (h : M.Way out done) (hall : ∀ (a : Nat) (v : Int), out[a]? = some v → 0 ≤ v → done a) : M.goodB = true ∧ out = M.outL := by
  have hc : ∀ a v, M.Comes a v → out[a]? = some v := fun a v hv => by
    induction hv with
    | start => exact h.zero
    | @step a b v hv hf hb ih =>
      obtain ⟨w, e1, e2, e3, e4⟩ := h.done_ a (hall a v ih (hv.nonneg hk))
      rw [ih] at e1
      cases e1
      exact e4 b hb
  refine ⟨Stk.good_t ⟨fun a v hv => ?_, fun a v w hv hw => ?_⟩, List.ext_getElem? fun a => ?_⟩
  · obtain ⟨w, e1, _, e3, _⟩ := h.done_ a (hall a v (hc a v hv) (hv.nonneg hk))
    rw [hc a v hv] at e1
    cases e1
    exact e3
  · have := (hc a v hv).symm.trans (hc a w hw)
    cases this; rfl
  · by_cases ha : a < M.n
    · have hal : a < out.length := by rw [h.len]; exact ha
      have e := List.getElem?_eq_getElem hal
      rw [e]
      unfold Stk.outL
      rw [List.getElem?_map, List.getElem?_range ha, Option.map_some]
      congr 1
      by_cases hx : ∃ v, M.Comes a v
      · rw [dif_pos hx]
        have := hc a _ hx.choose_spec
        rw [e] at this
        exact Option.some.inj this
      · rw [dif_neg hx]
        by_cases hn : 0 ≤ out[a]
        · exact absurd ⟨_, h.comes a _ e hn⟩ hx
        · exact h.neg a _ e (by omega)
    · have h1 : out[a]? = none := List.getElem?_eq_none (by rw [h.len]; omega)
      have h2 : M.outL[a]? = none := List.getElem?_eq_none (by unfold Stk.outL; simp; omega)
      rw [h1, h2]
theorem Stk.Way.bad_fit {M : Stk} {out : List Int} {done : Nat → Prop} (h : M.Way out done) {a : Nat} {v : Int} (ha : out[a]? = some v) (hv : 0 ≤ v) (hf : ¬ M.fits a v) : M.goodB = false :=
  Stk.good_f fun hg => hf (hg.1 a v (h.comes a v ha hv))
theorem Stk.Way.bad_two {M : Stk} {out : List Int} {done : Nat → Prop} (h : M.Way out done) {a b : Nat} {v w : Int} (ha : out[a]? = some v) (hv : 0 ≤ v) (hf : M.fits a v) (hb : b ∈ M.nx a) (hw : out[b]? = some w) (hw0 : 0 ≤ w) (hne : w ≠ v - M.pop a + M.push a) : M.goodB = false :=
  Stk.good_f fun hg => hne (hg.2 b w _ (h.comes b w hw hw0) (.step (h.comes a v ha hv) hf hb))
theorem Stk.Way.put {M : Stk} (hk : M.Ok) {out : List Int} {done : Nat → Prop} (h : M.Way out done) {b : Nat} {w w0 : Int} (hb : out[b]? = some w0) (hw0 : w0 < 0) (hc : M.Comes b w) : M.Way (out.set b w) done := by
  have hbl := (List.getElem?_eq_some_iff.1 hb).1
  have hw := hc.nonneg hk
  have hat : ∀ (a : Nat) (v : Int), (out.set b w)[a]? = some v → (a = b ∧ v = w) ∨ (a ≠ b ∧ out[a]? = some v) := fun a v ha => by
    by_cases hab : a = b
    · subst hab
      rw [List.getElem?_set_self hbl] at ha
      cases ha
      exact .inl ⟨rfl, rfl⟩
    · rw [List.getElem?_set_ne (fun h => hab h.symm)] at ha
      exact .inr ⟨hab, ha⟩
  have stay : ∀ (a : Nat) (v : Int), out[a]? = some v → 0 ≤ v → (out.set b w)[a]? = some v := fun a v ha hv => by
    have hab : b ≠ a := fun e => by subst e; rw [hb] at ha; cases ha; omega
    rw [List.getElem?_set_ne hab]; exact ha
  refine ⟨by simp [h.len], stay 0 0 h.zero (by omega), fun a v ha hv => ?_, fun a v ha hv => ?_, fun a ha => ?_⟩
  · rcases hat a v ha with ⟨_, rfl⟩ | ⟨_, h2⟩
    · omega
    · exact h.neg a v h2 hv
  · rcases hat a v ha with ⟨rfl, rfl⟩ | ⟨_, h2⟩
    · exact hc
    · exact h.comes a v h2 hv
  · obtain ⟨v, e1, e2, e3, e4⟩ := h.done_ a ha
    exact ⟨v, stay a v e1 e2, e2, e3, fun c hc2 => stay c _ (e4 c hc2) (by have := e3.1; have := hk.push a; omega)⟩
theorem Stk.Way.mark {M : Stk} {out : List Int} {done : Nat → Prop} (h : M.Way out done) {a : Nat} {v : Int} (ha : out[a]? = some v) (hv : 0 ≤ v) (hf : M.fits a v) (hn : ∀ b ∈ M.nx a, out[b]? = some (v - M.pop a + M.push a)) : M.Way out fun x => done x ∨ x = a where
  len := h.len
  zero := h.zero
  neg := h.neg
  comes := h.comes
  done_ := fun x hx => by
    rcases hx with hx | rfl
    · exact h.done_ x hx
    · exact ⟨v, ha, hv, hf, hn⟩
theorem Stk.Way.fewer {M : Stk} {out : List Int} {done done' : Nat → Prop} (h : M.Way out done) (hd : ∀ a, done' a → done a) : M.Way out done' := ⟨h.len, h.zero, h.neg, h.comes, fun a ha => h.done_ a (hd a ha)⟩
theorem Stk.Comes.le {M : Stk} {a : Nat} {v : Int} (h : M.Comes a v) (hD : 0 ≤ M.D) : v ≤ M.D := by
  cases h with
  | start => exact hD
  | step _ hf _ => exact hf.2.2
/-- How many are not reckoned yet. -/
def negs (l : List Int) : Nat := (l.filter fun v => decide (v < 0)).length
theorem negs_set : ∀ {l : List Int} {b : Nat} {w w0 : Int}, l[b]? = some w0 → w0 < 0 → 0 ≤ w → negs (l.set b w) + 1 = negs l
  | [], b, w, w0, h, _, _ => by simp at h
  | x :: l, 0, w, w0, h, h1, h2 => by
    simp at h
    subst h
    simp [negs, h1, show ¬ w < 0 by omega]
  | x :: l, b + 1, w, w0, h, h1, h2 => by
    have ih := negs_set (l := l) (b := b) (by simpa using h) h1 h2
    simp only [negs, List.set_cons_succ, List.filter_cons] at ih ⊢
    split
    · simp only [List.length_cons]; omega
    · exact ih
theorem Stk.Way.bound {M : Stk} (hk : M.Ok) (hD : 0 ≤ M.D) {out : List Int} {done : Nat → Prop} (h : M.Way out done) {a : Nat} {v : Int} (ha : out[a]? = some v) : -1 ≤ v ∧ v ≤ M.D := by
  by_cases hv : v < 0
  · have := h.neg a v ha hv; omega
  · exact ⟨by omega, (h.comes a v ha (by omega)).le hD⟩

/-- What is known when operations wait to be gone through. -/
structure Stk.PW (M : Stk) (out todo : List Int) (D : Nat → Prop) : Prop where
  way : M.Way out D
  td : ∀ t ∈ todo, ∃ a : Nat, t = (a : Int) ∧ a < M.n ∧ ∃ v, out[a]? = some v ∧ 0 ≤ v
  cov : ∀ (a : Nat) (v : Int), out[a]? = some v → 0 ≤ v → (a : Int) ∈ todo ∨ D a
/-- One of them is gone through: the first i to which it goes are done. -/
structure Stk.PN (M : Stk) (a : Nat) (v : Int) (out todo : List Int) (D : Nat → Prop) (i : Nat) : Prop where
  way : M.Way out D
  td : ∀ t ∈ todo, ∃ a : Nat, t = (a : Int) ∧ a < M.n ∧ ∃ v, out[a]? = some v ∧ 0 ≤ v
  cov : ∀ (x : Nat) (w : Int), out[x]? = some w → 0 ≤ w → (x : Int) ∈ todo ∨ D x ∨ x = a
  at_ : out[a]? = some v
  pos : 0 ≤ v
  fit : M.fits a v
  nx : ∀ k b, k < i → (M.nx a)[k]? = some b → out[b]? = some (v - M.pop a + M.push a)
theorem Stk.PW.start {M : Stk} (h : M.Ok) : M.PW ((List.replicate M.n (-1)).set 0 0) [0] fun _ => False where
  way := .start h
  td := fun t ht => by
    rw [List.mem_singleton] at ht
    subst ht
    exact ⟨0, rfl, h.pos, 0, by rw [List.getElem?_set_self (by simpa using h.pos)], by omega⟩
  cov := fun a v ha hv => by
    by_cases h0 : a = 0
    · subst h0; exact .inl (by simp)
    · rw [List.getElem?_set_ne (by omega)] at ha
      have := List.eq_of_mem_replicate (List.mem_of_getElem? ha)
      omega
theorem Stk.PW.pop {M : Stk} {out todo : List Int} {D : Nat → Prop} {a : Nat} {v : Int} (h : M.PW out (todo ++ [(a : Int)]) D) (ha : out[a]? = some v) (hv : 0 ≤ v) (hf : M.fits a v) : M.PN a v out todo D 0 where
  way := h.way
  td := fun t ht => h.td t (by simp [ht])
  cov := fun x w hx hw => by
    rcases h.cov x w hx hw with h1 | h1
    · rcases List.mem_append.1 h1 with h2 | h2
      · exact .inl h2
      · rw [List.mem_singleton] at h2
        exact .inr (.inr (by omega))
    · exact .inr (.inl h1)
  at_ := ha
  pos := hv
  fit := hf
  nx := fun k b hk _ => by omega
theorem Stk.PN.same {M : Stk} {out todo : List Int} {D : Nat → Prop} {a i b : Nat} {v : Int} (h : M.PN a v out todo D i) (hb : (M.nx a)[i]? = some b) (ho : out[b]? = some (v - M.pop a + M.push a)) : M.PN a v out todo D (i + 1) where
  way := h.way
  td := h.td
  cov := h.cov
  at_ := h.at_
  pos := h.pos
  fit := h.fit
  nx := fun k c hk hc => by
    by_cases hki : k = i
    · subst hki; rw [hb] at hc; cases hc; exact ho
    · exact h.nx k c (by omega) hc
theorem Stk.PN.push {M : Stk} (hk : M.Ok) {out todo : List Int} {D : Nat → Prop} {a i b : Nat} {v w0 : Int} (h : M.PN a v out todo D i) (hb : (M.nx a)[i]? = some b) (ho : out[b]? = some w0) (hw0 : w0 < 0) : M.PN a v (out.set b (v - M.pop a + M.push a)) (todo ++ [(b : Int)]) D (i + 1) := by
  have hbl := (List.getElem?_eq_some_iff.1 ho).1
  have hbn : b < M.n := by rw [← h.way.len]; exact hbl
  have hc : M.Comes b (v - M.pop a + M.push a) := .step (h.way.comes a v h.at_ h.pos) h.fit (List.mem_of_getElem? hb)
  have hpos := hc.nonneg hk
  have stay : ∀ (x : Nat) (w : Int), out[x]? = some w → 0 ≤ w → (out.set b (v - M.pop a + M.push a))[x]? = some w := fun x w hx hw => by
    have hxb : b ≠ x := fun e => by subst e; rw [ho] at hx; cases hx; omega
    rw [List.getElem?_set_ne hxb]; exact hx
  refine ⟨h.way.put hk ho hw0 hc, fun t ht => ?_, fun x w hx hw => ?_, stay a v h.at_ h.pos, h.pos, h.fit, fun k c hk2 hc2 => ?_⟩
  · rcases List.mem_append.1 ht with h1 | h1
    · obtain ⟨x, e1, e2, w, e3, e4⟩ := h.td t h1
      exact ⟨x, e1, e2, w, stay x w e3 e4, e4⟩
    · rw [List.mem_singleton] at h1
      exact ⟨b, h1, hbn, _, List.getElem?_set_self hbl, hpos⟩
  · by_cases hxb : x = b
    · subst hxb; exact .inl (by simp)
    · rw [List.getElem?_set_ne (fun e => hxb e.symm)] at hx
      rcases h.cov x w hx hw with h1 | h1
      · exact .inl (by simp [h1])
      · exact .inr h1
  · by_cases hki : k = i
    · subst hki
      rw [hb] at hc2
      cases hc2
      exact List.getElem?_set_self hbl
    · exact stay c _ (h.nx k c (by omega) hc2) hpos
theorem Stk.PN.done {M : Stk} {out todo : List Int} {D : Nat → Prop} {a : Nat} {v : Int} (h : M.PN a v out todo D (M.nx a).length) : M.PW out todo fun x => D x ∨ x = a where
  way := h.way.mark h.at_ h.pos h.fit fun b hb => by
    obtain ⟨k, hk, rfl⟩ := List.getElem_of_mem hb
    exact h.nx k _ hk (List.getElem?_eq_getElem hk)
  td := h.td
  cov := h.cov
theorem Stk.PW.end_ {M : Stk} (hk : M.Ok) {out : List Int} {D : Nat → Prop} (h : M.PW out [] D) : M.goodB = true ∧ out = M.outL :=
  h.way.end_ hk fun a v ha hv => (h.cov a v ha hv).resolve_left (by simp)
theorem Stk.PN.bad {M : Stk} {out todo : List Int} {D : Nat → Prop} {a i b : Nat} {v w : Int} (h : M.PN a v out todo D i) (hb : (M.nx a)[i]? = some b) (hw : out[b]? = some w) (hw0 : 0 ≤ w) (hne : w ≠ v - M.pop a + M.push a) : M.goodB = false :=
  h.way.bad_two h.at_ h.pos h.fit (List.mem_of_getElem? hb) hw hw0 hne

/-- As the reference goes through one: the first i to which it goes are set. -/
structure Stk.RN (M : Stk) (a : Nat) (v : Int) (out : List Int) (D : Nat → Prop) (i : Nat) : Prop where
  way : M.Way out D
  at_ : out[a]? = some v
  pos : 0 ≤ v
  fit : M.fits a v
  nx : ∀ k b, k < i → (M.nx a)[k]? = some b → out[b]? = some (v - M.pop a + M.push a)
theorem Stk.RN.start {M : Stk} {out : List Int} {D : Nat → Prop} {a : Nat} {v : Int} (h : M.Way out D) (ha : out[a]? = some v) (hv : 0 ≤ v) (hf : M.fits a v) : M.RN a v out D 0 := ⟨h, ha, hv, hf, fun k b hk _ => by omega⟩
theorem set_same : ∀ {l : List Int} {b : Nat} {w : Int}, l[b]? = some w → l.set b w = l
  | [], b, w, h => by simp at h
  | x :: l, 0, w, h => by simp at h; subst h; rfl
  | x :: l, b + 1, w, h => by
    rw [List.set_cons_succ, set_same (by simpa using h)]
theorem Stk.RN.step {M : Stk} (hk : M.Ok) {out : List Int} {D : Nat → Prop} {a i b : Nat} {v w0 : Int} (h : M.RN a v out D i) (hb : (M.nx a)[i]? = some b) (ho : out[b]? = some w0) (hw0 : w0 < 0 ∨ w0 = v - M.pop a + M.push a) : M.RN a v (out.set b (v - M.pop a + M.push a)) D (i + 1) := by
  have hbl := (List.getElem?_eq_some_iff.1 ho).1
  rcases hw0 with hneg | rfl
  · have hc : M.Comes b (v - M.pop a + M.push a) := .step (h.way.comes a v h.at_ h.pos) h.fit (List.mem_of_getElem? hb)
    have hpos := hc.nonneg hk
    have stay : ∀ (x : Nat) (w : Int), out[x]? = some w → 0 ≤ w → (out.set b (v - M.pop a + M.push a))[x]? = some w := fun x w hx hw => by
      have hxb : b ≠ x := fun e => by subst e; rw [ho] at hx; cases hx; omega
      rw [List.getElem?_set_ne hxb]; exact hx
    refine ⟨h.way.put hk ho hneg hc, stay a v h.at_ h.pos, h.pos, h.fit, fun k c hk2 hc2 => ?_⟩
    by_cases hki : k = i
    · subst hki
      rw [hb] at hc2
      cases hc2
      exact List.getElem?_set_self hbl
    · exact stay c _ (h.nx k c (by omega) hc2) hpos
  · rw [set_same ho]
    refine ⟨h.way, h.at_, h.pos, h.fit, fun k c hk2 hc2 => ?_⟩
    by_cases hki : k = i
    · subst hki; rw [hb] at hc2; cases hc2; exact ho
    · exact h.nx k c (by omega) hc2
theorem Stk.RN.done {M : Stk} {out : List Int} {D : Nat → Prop} {a : Nat} {v : Int} (h : M.RN a v out D (M.nx a).length) : M.Way out fun x => D x ∨ x = a :=
  h.way.mark h.at_ h.pos h.fit fun b hb => by
    obtain ⟨k, hk, rfl⟩ := List.getElem_of_mem hb
    exact h.nx k _ hk (List.getElem?_eq_getElem hk)
theorem Stk.RN.bad {M : Stk} {out : List Int} {D : Nat → Prop} {a i b : Nat} {v w : Int} (h : M.RN a v out D i) (hb : (M.nx a)[i]? = some b) (hw : out[b]? = some w) (hw0 : 0 ≤ w) (hne : w ≠ v - M.pop a + M.push a) : M.goodB = false :=
  h.way.bad_two h.at_ h.pos h.fit (List.mem_of_getElem? hb) hw hw0 hne
/-- How many are not done yet. -/
def notD (l : List Bool) : Nat := (l.filter fun v => !v).length
theorem notD_set : ∀ {l : List Bool} {b : Nat}, l[b]? = some false → notD (l.set b true) + 1 = notD l
  | [], b, h => by simp at h
  | x :: l, 0, h => by
    simp at h
    subst h
    simp [notD]
  | x :: l, b + 1, h => by
    have ih := notD_set (l := l) (b := b) (by simpa using h)
    simp only [notD, List.set_cons_succ, List.filter_cons] at ih ⊢
    split
    · simp only [List.length_cons]; omega
    · exact ih
end Go.Proofs.YtefejpckppabpaaGreatDoor

/- bytes: which images may be, their heights, and which are the same: plain laws. -/
namespace Go.Proofs.YtefejpckppabpaaGreatDoor
set_option linter.unusedSimpArgs false
set_option linter.unusedVariables false
open Go Go.Fw

/-- All elements, with their numbers. -/
def zall {α : Type} (l : List α) (p : α → Nat → Bool) : Bool := l.zipIdx.all fun x => p x.1 x.2
theorem zall_iff {α : Type} {l : List α} {p : α → Nat → Bool} : zall l p = true ↔ ∀ i (h : i < l.length), p l[i] i = true := by
  unfold zall
  rw [List.all_eq_true]
  constructor
  · intro h i hi
    exact h (l[i], i) (by rw [List.mem_iff_getElem]; exact ⟨i, by simpa using hi, by simp⟩)
  · rintro h ⟨x, i⟩ hx
    obtain ⟨j, hj, he⟩ := List.getElem_of_mem hx
    simp only [List.getElem_zipIdx, Nat.zero_add, Prod.mk.injEq] at he
    obtain ⟨rfl, rfl⟩ := he
    exact h j (by simpa using hj)
theorem zall_bad {α : Type} {l : List α} {p : α → Nat → Bool} {i : Nat} (hi : i < l.length) (h : p l[i] i = false) : zall l p = false := by
  cases hq : zall l p with
  | false => rfl
  | true => rw [zall_iff.1 hq i hi] at h; cases h

def emp : ByteArray := ⟨#[]⟩
/-- Whether an operation is one, and its number of what there is. -/
def namB (m : ImgV) (u : UnitV) (o : OpV) : Bool :=
  if o.code = 1 then true else if o.code = 2 ∨ o.code = 3 then within o.n u.slots else if o.code = 4 then decide (o.n = 5 ∨ o.n = 6) else if o.code = 5 then decide (7 ≤ o.n ∧ o.n ≤ 17)
  else if o.code = 6 ∨ o.code = 7 then within o.n m.mems.length else if o.code = 8 ∨ o.code = 9 then within o.n m.locks.length else if o.code = 10 ∨ o.code = 14 then decide (o.n = 0)
  else if o.code = 11 then within o.n m.units.length && (match m.units[o.n.toNat]? with | some v => !v.thread | none => false) else if o.code = 12 ∨ o.code = 13 then within o.n u.ops.length else false
def popB (m : ImgV) (o : OpV) : Int :=
  if o.code = 11 then (match m.units[o.n.toNat]? with | some v => v.params | none => 0)
  else if o.code = 3 ∨ o.code = 4 ∨ o.code = 6 ∨ o.code = 10 ∨ o.code = 13 ∨ o.code = 14 then 1 else if o.code = 5 ∨ o.code = 7 then 2 else 0
def pushB (o : OpV) : Int := if o.code = 1 ∨ o.code = 2 ∨ o.code = 4 ∨ o.code = 5 ∨ o.code = 6 ∨ o.code = 11 then 1 else 0
def nxB (o : OpV) (a : Nat) : List Nat := (if o.code = 12 ∨ o.code = 14 then [] else [a + 1]) ++ (if o.code = 12 ∨ o.code = 13 then [o.n.toNat] else [])
def opAt (u : UnitV) (a : Nat) : OpV := u.ops.getD a ⟨0, 0⟩
/-- A Unit as operations on a stack. -/
def stkB (m : ImgV) (u : UnitV) : Stk := ⟨u.ops.length, fun a => popB m (opAt u a), fun a => pushB (opAt u a), fun a => nxB (opAt u a) a, u.depth⟩
def lastB2 (u : UnitV) : Bool := match u.ops.getLast? with
  | some o => decide (o.code = 12 ∨ o.code = 14)
  | none => false
def headU (u : UnitV) : Bool := decide (u.params ≤ u.slots ∧ u.slots ≤ 65536 ∧ 0 ≤ u.depth ∧ u.depth ≤ 65536 ∧ 1 ≤ u.ops.length ∧ u.ops.length ≤ 524288)
/-- What is asked of a Unit ahead of its heights. -/
def fitU (m : ImgV) (u : UnitV) : Bool := headU u && ((zall u.ops fun o _ => namB m u o) && lastB2 u)
noncomputable def unitB (m : ImgV) (u : UnitV) : Bool := fitU m u && (stkB m u).goodB
def jmp1 : Ins := ⟨11, 0, 0, 0, 0, .nil, 0, []⟩
def bareU (u : UnitV) (regs : Int) : FunV := ⟨u.name, u.thread, u.params, regs, .exact, [jmp1]⟩
def bareM (m : ImgV) : PrgV := ⟨m.mmk, m.lk, if m.units = [] then .nil else .any, m.mems, m.locks, m.units.map fun u => bareU u u.params⟩
theorem bareM_params {m : ImgV} (h : prgB (bareM m) = true) : ∀ u ∈ m.units, 0 ≤ u.params ∧ u.params ≤ 8 := fun u hu => by
  simp only [prgB, Bool.and_eq_true, List.all_eq_true] at h
  have := h.2.2.2 (bareU u u.params) (List.mem_map.2 ⟨u, hu, rfl⟩)
  simp only [funB, Bool.and_eq_true, decide_eq_true_eq] at this
  exact ⟨this.1.1, this.1.2.1⟩
theorem bareM_fit {m : ImgV} (hm : m.Ok) (ht : m.mems.length + m.locks.length + m.units.length ≤ 1000000000) : (bareM m).Fit where
  tot := by simpa [bareM] using ht
  names := fun s hs => by
    simp only [PrgV.names, bareM, List.mem_append, List.mem_map] at hs
    rcases hs with (⟨x, h1, rfl⟩ | h1) | ⟨g, ⟨q, h1, rfl⟩, rfl⟩
    · have := hm.mn x h1; omega
    · have := hm.ln s h1; omega
    · have := (hm.ok q h1).nm; simp only [bareU]; omega
  cl := fun g hg => by
    simp only [bareM, List.mem_map] at hg
    obtain ⟨q, _, rfl⟩ := hg
    simp [bareU]
  ins := fun g hg x hx => by
    simp only [bareM, List.mem_map] at hg
    obtain ⟨q, _, rfl⟩ := hg
    simp only [bareU, List.mem_singleton] at hx
    subst hx
    exact ⟨⟨by decide, by decide, by simp [jmp1], .inr rfl⟩, by simp [jmp1]⟩
noncomputable def imgB (m : ImgV) : Bool := prgB (bareM m) && zall m.units fun u _ => unitB m u
theorem pushB_pos (o : OpV) : 0 ≤ pushB o := by unfold pushB; split <;> omega
theorem stkB_ok {m : ImgV} {u : UnitV} (h : fitU m u = true) : (stkB m u).Ok := by
  simp only [fitU, headU, Bool.and_eq_true, decide_eq_true_eq, zall_iff] at h
  obtain ⟨⟨_, _, _, _, h1, _⟩, h2, h3⟩ := h
  refine ⟨h1, fun a => pushB_pos _, fun a ha b hb => ?_⟩
  have hat : opAt u a = u.ops[a]'ha := by unfold opAt; rw [List.getD_eq_getElem?_getD, List.getElem?_eq_getElem ha]; rfl
  simp only [stkB, hat, nxB, List.mem_append] at hb
  have hn := h2 a ha
  rcases hb with hb | hb
  · split at hb
    · simp at hb
    · rename_i hc
      simp at hb
      subst hb
      show a + 1 < u.ops.length
      by_cases hl : a + 1 < u.ops.length
      · exact hl
      · exfalso
        apply hc
        have hlast : u.ops.getLast? = some u.ops[a] := by
          rw [List.getLast?_eq_getElem?, show u.ops.length - 1 = a by have : a < u.ops.length := ha; omega, List.getElem?_eq_getElem ha]
        simp only [lastB2, hlast, decide_eq_true_eq] at h3
        exact h3
  · split at hb
    · rename_i hc
      simp at hb
      subst hb
      have : within u.ops[a].n u.ops.length = true := by
        unfold namB at hn
        rcases hc with hc | hc <;> (rw [hc] at hn; simpa using hn)
      simp [within] at this
      show u.ops[a].n.toNat < u.ops.length
      omega
    · simp at hb

def sameOp (x y : OpV) : Bool := decide (x.code = y.code ∧ x.n = y.n)
def sameU (x y : UnitV) : Bool := decide (x.name = y.name ∧ x.thread = y.thread ∧ x.params = y.params ∧ x.slots = y.slots ∧ x.depth = y.depth) && eqvL sameOp x.ops y.ops
def sameImg (x y : ImgV) : Bool := eqvL memE x.mems y.mems && (eqvL strE x.locks y.locks && eqvL sameU x.units y.units)
end Go.Proofs.YtefejpckppabpaaGreatDoor
