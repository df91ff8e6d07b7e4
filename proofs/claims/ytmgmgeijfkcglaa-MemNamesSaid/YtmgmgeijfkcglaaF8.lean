/- Framework, part 8: composite values, make, append. -/
import Derived.Test.YtmgmgeijfkcglaaF7
namespace Go.Fw
set_option linter.unusedSimpArgs false
set_option linter.unusedVariables false
open Go
set_option linter.unusedSectionVars false
variable [Globals]

section
variable {P : Program} {e : Env} {H : AHeap}

/-- Cells, abstract and not. -/
def RelC (e : Env) (cs : List AV) (us : List Value) : Prop :=
  us.length = cs.length ∧ ∀ (i : Nat) (a : AV) (u : Value), cs[i]? = some a → us[i]? = some u → u.oneCell' = true ∧ Rep e a u

theorem RelC.ext {e e' : Env} (x : Ext e e') {cs : List AV} {us : List Value} (h : RelC e cs us) : RelC e' cs us :=
  ⟨h.1, fun i a u ha hu => ⟨(h.2 i a u ha hu).1, (h.2 i a u ha hu).2.ext x⟩⟩

theorem RelC.append {cs ds : List AV} {us ws : List Value} (h : RelC e cs us) (k : RelC e ds ws) : RelC e (cs ++ ds) (us ++ ws) := by
  refine ⟨by simp [h.1, k.1], fun i a u ha hu => ?_⟩
  by_cases hi : i < cs.length
  · rw [List.getElem?_append_left hi] at ha
    rw [List.getElem?_append_left (by rw [h.1]; exact hi)] at hu
    exact h.2 i a u ha hu
  · rw [List.getElem?_append_right (by omega)] at ha
    rw [List.getElem?_append_right (by rw [h.1]; omega), h.1] at hu
    exact k.2 _ a u ha hu

theorem RelC.take {cs : List AV} {us : List Value} (h : RelC e cs us) (n : Nat) : RelC e (cs.take n) (us.take n) := by
  refine ⟨by simp [h.1], fun i a u ha hu => ?_⟩
  rw [List.getElem?_take] at ha hu
  split at ha
  · rename_i hi
    rw [if_pos hi] at hu
    exact h.2 i a u ha hu
  · cases ha

theorem RelC.drop {cs : List AV} {us : List Value} (h : RelC e cs us) (n : Nat) : RelC e (cs.drop n) (us.drop n) := by
  refine ⟨by simp [h.1], fun i a u ha hu => ?_⟩
  rw [List.getElem?_drop] at ha hu
  exact h.2 _ a u ha hu

theorem RelC.splice {cs vs : List AV} {us ws : List Value} (h : RelC e cs us) (k : RelC e vs ws) {off : Nat} (hle : off + vs.length ≤ cs.length) :
    RelC e (splice off vs cs) (us.take off ++ ws ++ us.drop (off + ws.length)) := by
  rw [splice_eq hle]
  rw [k.1]
  exact ((h.take off).append k).append (h.drop _)

theorem RelC.agg {cs : List AV} {us : List Value} (h : RelC e cs us) : Rep e (.agg cs) (.agg us.toArray) := by
  refine .agg h.1 (fun u hu => ?_) (fun i c u hc hu => (h.2 i c u hc hu).2)
  obtain ⟨i, hi, rfl⟩ := List.getElem_of_mem hu
  have hi' : i < cs.length := by have := h.1; omega
  exact (h.2 i cs[i] us[i] (by simp [hi']) (by simp [hi])).1

theorem relC_const (e : Env) : ∀ (us : List Value), (∀ u ∈ us, u.oneCell' = true) → RelC e (us.map cAV1) us := fun us h => by
  refine ⟨by simp, fun i a u ha hu => ?_⟩
  simp only [List.getElem?_map, hu, Option.map_some, Option.some.injEq] at ha
  subst ha
  exact ⟨h u (List.mem_of_getElem? hu), rep_cAV1 e u⟩

theorem foldl_set (off : Nat) : ∀ (vs : List Value) (k : Nat) (cells : Array Value), off + k + vs.length ≤ cells.size →
    ((vs.zipIdx k).foldl (fun cs (c, j) => cs.setIfInBounds (off + j) c) cells).toList = cells.toList.take (off + k) ++ vs ++ cells.toList.drop (off + k + vs.length)
  | [], k, cells, _ => by simp
  | v :: vs, k, cells, h => by
    simp only [List.zipIdx_cons, List.foldl_cons]
    simp only [List.length_cons] at h
    rw [foldl_set off vs (k + 1) _ (by simp; omega)]
    simp only [Array.toList_setIfInBounds, List.length_cons]
    rw [List.set_eq_take_append_cons_drop, if_pos (by simp; omega)]
    have h1 : (cells.toList.take (off + k)).length = off + k := by simp; omega
    rw [List.take_append, List.drop_append, h1]
    have h2 : off + (k + 1) - (off + k) = 1 := by omega
    have h3 : off + (k + 1) + vs.length - (off + k) = vs.length + 1 := by omega
    rw [h2, h3]
    simp only [List.take_succ_cons, List.take_zero, List.drop_succ_cons, List.drop_drop]
    rw [List.take_of_length_le (by simp; omega), List.drop_eq_nil_of_le (by simp; omega)]
    simp only [List.append_assoc, List.nil_append, List.singleton_append, List.cons_append]
    congr 3
    congr 1
    omega

/-- Parts laid into cells. -/
def afill : List (Nat × Nat × AV) → List AV → Option (List AV)
  | [], cs => some cs
  | (off, size, v) :: r, cs =>
    match v.cells with
    | some vcs => if vcs.length = size ∧ off + size ≤ cs.length then afill r (splice off vcs cs) else none
    | none => none

theorem afill_run (place : Nat → Option (Nat × Nat)) : ∀ (parts : List (Nat × Nat × AV)) (rp : List (Nat × Value)) (cs cs' : List AV) (cells : Array Value),
    parts.length = rp.length → (∀ (i : Nat) (x : Nat × Nat × AV) (y : Nat × Value), parts[i]? = some x → rp[i]? = some y → place y.1 = some (x.1, x.2.1) ∧ Rep e x.2.2 y.2) →
    RelC e cs cells.toList → afill parts cs = some cs' → ∃ cells', Instr.fill place cells rp = some cells' ∧ RelC e cs' cells'.toList
  | [], [], cs, cs', cells, _, _, hr, h => by cases h; exact ⟨cells, rfl, hr⟩
  | [], _ :: _, _, _, _, hl, _, _, _ => by simp at hl
  | _ :: _, [], _, _, _, hl, _, _, _ => by simp at hl
  | (off, size, v) :: parts, (i, u) :: rp, cs, cs', cells, hl, hrel, hr, h => by
    obtain ⟨hp, hv⟩ := hrel 0 (off, size, v) (i, u) rfl rfl
    simp only at hp hv
    unfold afill at h
    split at h
    · rename_i vcs hvc
      split at h
      · rename_i hc
        obtain ⟨h1, h2⟩ := hc
        obtain ⟨h3, h4⟩ := cells_list hvc hv
        have hk : RelC e vcs u.cells.toList := ⟨h3, h4⟩
        have hcl : cells.size = cs.length := by have := hr.1; simpa using this
        have hus : u.cells.size = size := by have := h3; simp at this; omega
        have hset : (u.cells.zipIdx.foldl (fun cs (c, j) => cs.setIfInBounds (off + j) c) cells).toList = cells.toList.take off ++ u.cells.toList ++ cells.toList.drop (off + u.cells.toList.length) := by
          rw [← Array.foldl_toList, Array.toList_zipIdx]
          have := foldl_set off u.cells.toList 0 cells (by simp; omega)
          simpa using this
        have hr' : RelC e (splice off vcs cs) (u.cells.zipIdx.foldl (fun cs (c, j) => cs.setIfInBounds (off + j) c) cells).toList := by
          rw [hset]
          exact hr.splice hk (by omega)
        obtain ⟨cells', h5, h6⟩ := afill_run place parts rp _ _ _ (by simpa using hl) (fun i x y hx hy => hrel (i + 1) x y (by simpa using hx) (by simpa using hy)) hr' h
        refine ⟨cells', ?_, h6⟩
        rw [Instr.fill]
        simp only [hp]
        rw [if_neg (by simp [hus]; omega)]
        exact h5
      · cases h
    · cases h

/-- A row of cells in pieces of one size. -/
def chunks (sz : Nat) : Nat → List AV → List (List AV)
  | 0, _ => []
  | n + 1, cs => cs.take sz :: chunks sz n (cs.drop sz)

theorem length_chunks (sz : Nat) : ∀ (n : Nat) (cs : List AV), (chunks sz n cs).length = n
  | 0, _ => rfl
  | n + 1, cs => by simp [chunks, length_chunks sz n]

theorem get_chunks (sz : Nat) : ∀ (n : Nat) (cs : List AV) (i : Nat), i < n → (chunks sz n cs)[i]? = some ((cs.drop (i * sz)).take sz)
  | 0, _, i, h => by omega
  | n + 1, cs, 0, _ => by simp [chunks]
  | n + 1, cs, i + 1, h => by
    simp only [chunks, List.getElem?_cons_succ]
    rw [get_chunks sz n _ i (by omega), List.drop_drop]
    congr 3
    rw [Nat.add_mul]; omega

theorem mem_chunks {sz n : Nat} {cs : List AV} (hl : n * sz ≤ cs.length) {x : List AV} (h : x ∈ chunks sz n cs) : x.length = sz := by
  obtain ⟨i, hi, hx⟩ := List.getElem_of_mem h
  rw [length_chunks] at hi
  have h1 := get_chunks sz n cs i hi
  rw [List.getElem?_eq_getElem (by rw [length_chunks]; exact hi), hx] at h1
  simp only [Option.some.injEq] at h1
  subst h1
  have : (i + 1) * sz ≤ n * sz := Nat.mul_le_mul_right _ hi
  rw [Nat.add_mul] at this
  simp; omega

/-- A row that nobody writes any more, as a slice. -/
theorem rep_chunks {k : SK} {sz n b o cap : Nat} {cs : List AV} (hk : k ≠ .nil) (hI : e.I b) (hcap : n ≤ cap) (hex : k = .exact → cap = n) (hl : n * sz ≤ cs.length) (hm : MemAt e b o cs) :
    Rep e (.sl k sz (chunks sz n cs)) (.slice (some ⟨b, o, none⟩) n cap) := by
  have := rep_sl_intro (e := e) (k := k) (sz := sz) (es := chunks sz n cs) (b := b) (o := o) (cap := cap) hk (fun _ => hI) (by rw [length_chunks]; exact hcap)
    (fun h => by rw [length_chunks]; exact hex h) (fun x hx => mem_chunks hl hx) (fun i x hi j c hj => by
      have hin : i < n := by have := (List.getElem?_eq_some_iff.1 hi).1; rwa [length_chunks] at this
      rw [get_chunks sz n cs i hin] at hi
      cases hi
      rw [List.getElem?_take] at hj
      split at hj
      · rw [List.getElem?_drop] at hj
        have := hm _ c hj
        rwa [Nat.add_assoc]
      · cases hj)
  rw [length_chunks] at this
  exact this

/-- New memory that nobody will write. -/
theorem memAt_allocI (hH : HRep e H) {cs : List AV} {us rest : List Value} (t : TypeId) (h : RelC e cs us) :
    MemAt (e.allocI (.cells (us ++ rest).toArray t)) e.w.heap.size 0 cs := fun j c hj => by
  have hj' : j < us.length := by have := (List.getElem?_eq_some_iff.1 hj).1; have := h.1; omega
  obtain ⟨h1, h2⟩ := h.2 j c us[j] hj (by simp [hj'])
  refine ⟨us[j], ?_, h1, h2.ext (ext_allocI e _ hH.imm)⟩
  have hn : (e.allocI (.cells (us ++ rest).toArray t)).w.heap[e.w.heap.size]? = some (.cells (us ++ rest).toArray t) := heap_alloc_new _ _
  simp [World.cell?, hn, List.getElem?_append_left hj', hj']

theorem build_run {t : TypeId} {fs : Array Field} (hu : P.underlying t = some (.struct fs)) {ti : TypeInfo} (hi : P.info? t = some ti) {z : Value} (hz : ti.zero = some z) (h1 : ∀ u ∈ z.cells.toList, u.oneCell' = true)
    {places : List (Nat × Nat)} (hp : fs.toList.mapM (fun f => (P.info? f.type).map fun i => (f.offset, i.size)) = some places)
    {parts : List (Nat × Nat × AV)} {rp : List (Nat × Value)} (hl : parts.length = rp.length)
    (hrel : ∀ (i : Nat) (x : Nat × Nat × AV) (y : Nat × Value), parts[i]? = some x → rp[i]? = some y → places[y.1]? = some (x.1, x.2.1) ∧ Rep e x.2.2 y.2)
    {cs : List AV} (h : afill parts (z.cells.toList.map cAV1) = some cs) : ∃ u, (Instr.build t rp.toArray).run P e.w = .ok u e.w ∧ Rep e (.agg cs) u := by
  obtain ⟨cells', h2, h3⟩ := afill_run (e := e) (places.toArray[·]?) parts rp _ cs z.cells hl (fun i x y hx hy => by simpa using hrel i x y hx hy) (relC_const e _ h1) h
  have h2' : Instr.fill (fun x => places[x]?) z.cells rp = some cells' := by simpa using h2
  have hb : P.built t rp.toArray.toList = some cells' := by simp [Program.built, hi, hu, hz, hp, h2']
  refine ⟨.agg cells', run_build (P := P) e.w t _ cells' hb, ?_⟩
  simpa using h3.agg

/-- The cells of a literal slice before its parts are laid. -/
def zrow (z : Value) (n : Nat) : List Value := ((Array.range n).map (z.cells[· % z.cells.size]!)).toList

theorem bslice_run {t el : TypeId} (ht : P.underlying t = some (.slice el)) {ti : TypeInfo} (hi : P.info? el = some ti) {z : Value} (hz : ti.zero = some z) {len : Nat} (h24 : len * ti.size ≤ 2 ^ 24)
    {zs : List Value} (hzs : zs = if len * ti.size = 0 then [] else zrow z (len * ti.size)) (h1 : ∀ u ∈ zs, u.oneCell' = true)
    {parts : List (Nat × Nat × AV)} {rp : List (Nat × Value)} (hl : parts.length = rp.length)
    (hrel : ∀ (i : Nat) (x : Nat × Nat × AV) (y : Nat × Value), parts[i]? = some x → rp[i]? = some y → (y.1 * ti.size, ti.size) = (x.1, x.2.1) ∧ Rep e x.2.2 y.2)
    {cs : List AV} (h : afill parts (zs.map cAV1) = some cs) : ∃ cells : List Value, cells.length = len * ti.size ∧ RelC e cs cells ∧
      (Instr.buildSlice t len rp.toArray).run P e.w = .ok (.slice (some ⟨e.w.heap.size, 0, none⟩) len len) (e.w.alloc (.cells cells.toArray el)) := by
  obtain ⟨cells', h2, h3⟩ := afill_run (e := e) (fun i => some (i * ti.size, ti.size)) parts rp _ cs zs.toArray hl (fun i x y hx hy => by
    obtain ⟨h4, h5⟩ := hrel i x y hx hy; exact ⟨by rw [h4], h5⟩) (relC_const e zs h1) h
  have hlen : cells'.size = len * ti.size := by
    have hf : ∀ (rp : List (Nat × Value)) (c c' : Array Value), Instr.fill (fun i => some (i * ti.size, ti.size)) c rp = some c' → c'.size = c.size := by
      intro rp
      induction rp with
      | nil => intro c c' h; simp [Instr.fill] at h; rw [h]
      | cons x rp ih =>
        intro c c' h
        rw [Instr.fill] at h
        simp only at h
        split at h
        · cases h
        · have := ih _ _ h
          rw [this]
          have hfold : ∀ (l : List (Value × Nat)) (c : Array Value), (l.foldl (fun cs (c, j) => cs.setIfInBounds (x.1 * ti.size + j) c) c).size = c.size := by
            intro l
            induction l with
            | nil => intro c; rfl
            | cons y l ih2 => intro c; simp only [List.foldl_cons]; rw [ih2]; simp
          rw [← Array.foldl_toList]
          exact hfold _ _
    have := hf _ _ _ h2
    rw [this, hzs]
    split
    · rename_i h0; simp [h0]
    · simp [zrow]
  refine ⟨cells'.toList, by simpa using hlen, h3, ?_⟩
  have hnot : ¬ (16777216 < len * ti.size) := by omega
  by_cases h0 : len * ti.size = 0
  · have hz0 : zs.toArray = #[] := by rw [hzs, if_pos h0]
    rw [hz0] at h2
    have hr : ∀ f : Nat → Value, Array.map f (Array.range 0) = #[] := fun f => by apply Array.ext'; simp
    rcases Nat.mul_eq_zero.1 h0 with h3 | h3
    · subst h3
      simp [Instr.buildSlice, run_underlying ht, sizeOf, run_typeInfo _ hi, h2, newRow, hr]
    · simp only [h3, Nat.mul_zero] at h2
      simp [Instr.buildSlice, run_underlying ht, sizeOf, run_typeInfo _ hi, h3, h2, newRow, hr]
  · have hzz : zs.toArray = (Array.range (len * ti.size)).map (z.cells[· % z.cells.size]!) := by rw [hzs, if_neg h0]; apply Array.ext'; simp [zrow]
    rw [hzz] at h2
    simp [Instr.buildSlice, run_underlying ht, sizeOf, run_typeInfo _ hi, hnot, h0, zeroValue, hz, h2, newRow]

end
end Go.Fw
