/- Framework, part 7: stores and new memory. -/
import Derived.Test.YtmgmgeijfkcglaaF6
namespace Go.Fw
set_option linter.unusedSimpArgs false
set_option linter.unusedVariables false
open Go
set_option linter.unusedSectionVars false
variable [Globals]

/-- Cells written over cells. -/
def splice (off : Nat) (vcs cs : List AV) : List AV :=
  match vcs with
  | [c] => cs.set off c
  | vcs => cs.take off ++ vcs ++ cs.drop (off + vcs.length)

theorem splice_eq {off : Nat} {vcs cs : List AV} (h : off + vcs.length ≤ cs.length) : splice off vcs cs = cs.take off ++ vcs ++ cs.drop (off + vcs.length) := by
  unfold splice
  split
  · rw [List.set_eq_take_append_cons_drop, if_pos (by simp at h; omega)]
    simp
  · rfl

/-- A store. -/
def astore (H : AHeap) (sz : Nat) (x v : AV) : Option AHeap :=
  match x, v.cells with
  | .mp id off, some vcs =>
    match H id with
    | some (.blk cs) => if vcs.length = sz ∧ off + sz ≤ cs.length then some (H.set id (.blk (splice off vcs cs))) else none
    | _ => none
  | _, _ => none

section
variable {P : Program} {e : Env} {H : AHeap}

theorem memAt_of_list {b base : Nat} {c : Array Value} {t : TypeId} {fz : Nat × Nat} (hg : e.w.heap[b]? = some (.cells c t fz)) {cs : List AV}
    (h : ∀ (j : Nat) (a : AV), cs[j]? = some a → ∃ u, c[base + j]? = some u ∧ u.oneCell' = true ∧ Rep e a u) : MemAt e b base cs := fun j a hj => by
  obtain ⟨u, h1, h2, h3⟩ := h j a hj
  exact ⟨u, by simp [World.cell?, hg, h1], h2, h3⟩

/-- A row of the model after a store. -/
theorem orep_store {id off : Nat} {cs vcs : List AV} {c : Array Value} {t : TypeId} {us : List Value} (hH : HRep e H) (hid : H id = some (.blk cs))
    (hg : e.w.heap[(e.ρ id).1]? = some (.cells c t (0, 0))) (hlen : us.length = vcs.length) (hle : off + vcs.length ≤ cs.length)
    (hu : ∀ (i : Nat) (a : AV) (u : Value), vcs[i]? = some a → us[i]? = some u → u.oneCell' = true ∧ Rep e a u) :
    let c' := (c.toList.take ((e.ρ id).2 + off) ++ us ++ c.toList.drop ((e.ρ id).2 + off + us.length)).toArray
    c'.size = c.size ∧ ORep (e.setRow (e.ρ id).1 c') (e.ρ id).1 (e.ρ id).2 (.blk (splice off vcs cs)) := by
  intro c'
  obtain ⟨_, hI, c0, t0, hg0, hle0, hm⟩ := hH.at_ id _ hid
  rw [hg] at hg0
  cases hg0
  have hs : c'.size = c.size := by
    simp only [c', List.size_toArray, List.length_append, List.length_take, List.length_drop, Array.length_toList]
    omega
  have x : Ext e (e.setRow (e.ρ id).1 c') := ext_setRow hg hs hI
  refine ⟨hs, c', t, setRow_heap _ _ _ _ _ _ hg, ?_, fun j a hj => ?_⟩
  · rw [hs, splice_eq hle]; simp; omega
  · rw [splice_eq hle] at hj
    have hcl : (e.ρ id).2 + off ≤ c.toList.length := by simp; omega
    have ht : (c.toList.take ((e.ρ id).2 + off)).length = (e.ρ id).2 + off := by simp; omega
    have htc : (cs.take off).length = off := by simp; omega
    simp only [c', List.getElem?_toArray]
    by_cases h1 : j < off
    · rw [List.append_assoc, List.getElem?_append_left (by omega), List.getElem?_take, if_pos h1] at hj
      obtain ⟨u, h2, h3, h4⟩ := hm j a hj
      refine ⟨u, ?_, h3, h4.ext x⟩
      rw [List.append_assoc, List.getElem?_append_left (by omega), List.getElem?_take, if_pos (by omega)]
      simpa using h2
    · by_cases h2 : j < off + vcs.length
      · rw [List.append_assoc, List.getElem?_append_right (by omega), htc, List.getElem?_append_left (by omega)] at hj
        have hus : us[j - off]? = some (us[j - off]'(by omega)) := by simp [show j - off < us.length by omega]
        obtain ⟨h3, h4⟩ := hu _ a _ hj hus
        refine ⟨_, ?_, h3, h4.ext x⟩
        rw [List.append_assoc, List.getElem?_append_right (by omega), ht, List.getElem?_append_left (by omega)]
        rw [show (e.ρ id).2 + j - ((e.ρ id).2 + off) = j - off by omega]
        exact hus
      · rw [List.append_assoc, List.getElem?_append_right (by omega), htc, List.getElem?_append_right (by omega), List.getElem?_drop] at hj
        have hj' : cs[j]? = some a := by rw [← hj]; congr 1; omega
        obtain ⟨u, h3, h4, h5⟩ := hm j a hj'
        refine ⟨u, ?_, h4, h5.ext x⟩
        rw [List.append_assoc, List.getElem?_append_right (by omega), ht, List.getElem?_append_right (by omega), List.getElem?_drop]
        rw [show (e.ρ id).2 + off + us.length + ((e.ρ id).2 + j - ((e.ρ id).2 + off) - us.length) = (e.ρ id).2 + j by omega]
        simpa using h3

theorem astore_run (hH : HRep e H) {t : TypeId} {sz : Nat} (hs : (P.info? t).map (·.size) = some sz) {x v : AV} {H' : AHeap} {vx vv : Value}
    (h : astore H sz x v = some H') (hx : Rep e x vx) (hv : Rep e v vv) : ∃ e', (Instr.storeAt t vx vv).run P e.w = .ok () e'.w ∧ HRep e' H' ∧ e'.N = e.N ∧ Tr e H e' H' := by
  obtain ⟨ti, hti, hsz⟩ := size_info hs
  unfold astore at h
  split at h
  · rename_i id off vcs hcs
    split at h
    · rename_i cs hid
      split at h
      · rename_i hc
        obtain ⟨hl, hle⟩ := hc
        cases h
        cases hx with
        | mp hid' =>
          obtain ⟨hN, hI, c, t0, hg, hle0, hm⟩ := hH.at_ id _ hid
          obtain ⟨hsize, hcell⟩ := hv.cells hcs
          have hone : ∀ u ∈ vv.cells.toList, u.oneCell' = true := fun u hu => by
            obtain ⟨i, hi, rfl⟩ := List.getElem_of_mem hu
            have hi' : i < vcs.length := by simp at hi; omega
            exact (hcell i _ _ (List.getElem?_eq_getElem hi') (by simp at hi; simp [hi])).1
          obtain ⟨h1, h2⟩ := orep_store (us := vv.cells.toList) hH hid hg (by simp [hsize]) (off := off) (vcs := vcs) (by omega) (fun i a u ha hu => hcell i a u ha (by simpa using hu))
          refine ⟨_, ?_, hrep_setRow hH hid hg h1 h2, rfl, tr_setRow hH _ hid hg h1⟩
          have hst := run_storeCells_at P (e.ρ id).1 ((e.ρ id).2 + off) t0 vv.cells.toList 0 c e.w hg (by simp [hsize]; omega) hone
          simp only [Nat.add_zero] at hst
          simp only [Instr.storeAt, Instr.sureAddr, storeVar, Sem.run_bind, Sem.run_pure, Result.andThen_ok, sizeOf, run_typeInfo _ hti, hsz, hsize, hl]
          simpa [Env.setRow] using hst
      · cases h
    · cases h
  · cases h

/-- New memory that holds these cells. -/
theorem new_obj (hH : HRep e H) {cs : List AV} {us : List Value} {rest : List Value} (t : TypeId) (hlen : us.length = cs.length)
    (hu : ∀ (i : Nat) (a : AV) (u : Value), cs[i]? = some a → us[i]? = some u → u.oneCell' = true ∧ Rep e a u) :
    HRep (e.allocO (.cells (us ++ rest).toArray t)) (H.set e.N (.blk cs)) ∧ Tr e H (e.allocO (.cells (us ++ rest).toArray t)) (H.set e.N (.blk cs)) := by
  refine ⟨hrep_allocO hH _ ⟨_, t, heap_alloc_new _ _, by simp; omega, fun j a hj => ?_⟩, tr_allocO hH _ _⟩
  have hj' : j < us.length := by have := (List.getElem?_eq_some_iff.1 hj).1; omega
  obtain ⟨h1, h2⟩ := hu j a us[j] hj (by simp [hj'])
  refine ⟨us[j], ?_, h1, h2.ext (ext_allocO e _ hH.imm)⟩
  simp [List.getElem?_append_left hj', hj']

theorem rep_new_ms {us : List Value} (t : TypeId) {len cap sz : Nat} (h1 : len ≤ cap) (h2 : cap * sz ≤ us.length) :
    Rep (e.allocO (.cells us.toArray t)) (.ms e.N 0 len sz) (.slice (some ⟨e.w.heap.size, 0, none⟩) len cap) := by
  refine .ms (Nat.lt_succ_self _) h1 (.inr ⟨by simp [Env.allocO], us.toArray, t, (0, 0), ?_, ?_⟩)
  · simp only [Env.allocO, if_true]; exact heap_alloc_new _ _
  · simp [Env.allocO]; exact h2

theorem rep_new_mp {us : List Value} (t : TypeId) : Rep (e.allocO (.cells us.toArray t)) (.mp e.N 0) (.pointer (some ⟨e.w.heap.size, 0, none⟩)) := by
  have := Rep.mp (e := e.allocO (.cells us.toArray t)) (id := e.N) (off := 0) (Nat.lt_succ_self _)
  simpa [Env.allocO] using this

theorem cells_list {v : AV} {vv : Value} {cs : List AV} (h : v.cells = some cs) (r : Rep e v vv) : vv.cells.toList.length = cs.length ∧
    ∀ (i : Nat) (a : AV) (u : Value), cs[i]? = some a → vv.cells.toList[i]? = some u → u.oneCell' = true ∧ Rep e a u := by
  obtain ⟨h1, h2⟩ := r.cells h
  exact ⟨by simpa using h1, fun i a u ha hu => h2 i a u ha (by simpa using hu)⟩

/-- 'box': a variable that holds a value. -/
theorem box_run (hH : HRep e H) (t : TypeId) {v : AV} {vv : Value} {cs : List AV} (hc : v.cells = some cs) (r : Rep e v vv) :
    ∃ u e', (Instr.box t vv).run P e.w = .ok u e'.w ∧ Rep e' (.mp e.N 0) u ∧ HRep e' (H.set e.N (.blk cs)) ∧ e'.N = e.N + 1 ∧ Tr e H e' (H.set e.N (.blk cs)) := by
  obtain ⟨h1, h2⟩ := cells_list hc r
  obtain ⟨h3, h4⟩ := new_obj hH t (rest := []) h1 h2
  rw [List.append_nil] at h3 h4
  refine ⟨_, _, ?_, rep_new_mp t, h3, rfl, h4⟩
  simp only [Instr.box, newVar, newRow, newObj, Sem.run_bind, Sem.run_pure, Result.andThen_ok, Sem.run]
  rfl

theorem alloc_run (hH : HRep e H) {t : TypeId} {z : Value} (hz : (P.info? t).bind (·.zero) = some z) {v : AV} {cs : List AV} (hc : v.cells = some cs) (r : Rep e v z) :
    ∃ u e', (Instr.alloc t true (.tuple #[])).run P e.w = .ok u e'.w ∧ Rep e' (.mp e.N 0) u ∧ HRep e' (H.set e.N (.blk cs)) ∧ e'.N = e.N + 1 ∧ Tr e H e' (H.set e.N (.blk cs)) := by
  obtain ⟨h1, h2⟩ := cells_list hc r
  obtain ⟨h3, h4⟩ := new_obj hH t (rest := []) h1 h2
  rw [List.append_nil] at h3 h4
  refine ⟨_, _, ?_, rep_new_mp t, h3, rfl, h4⟩
  obtain ⟨ti, hti, hzz⟩ := Option.bind_eq_some_iff.1 hz
  simp only [Instr.alloc, zeroValue, run_typeInfo _ hti, hzz, newVar, newRow, newObj, Sem.run_bind, Sem.run_pure, Result.andThen_ok, Sem.run]
  rfl

end
end Go.Fw
