/- Framework, part 29: contracts that tell a row's cells in place, as calls over the abstract heap. -/
import Derived.Test.YtmgmgeijfkcglaaH9
import Derived.Sort.Grow
import Derived.Lib.SlicesCompact
namespace Go.Fw
set_option linter.unusedSimpArgs false
set_option linter.unusedVariables false
open Go
set_option linter.unusedSectionVars false
variable [Globals]

/-- A row's cells written in place, with new blocks behind, that belong to nobody. -/
def Env.wrote (e : Env) (b base q : Nat) (zs : List Int) (os : Array Obj) : Env := { e with w := Sort.grow (Sort.putRow (Value.int .i64) (Sort.ahead e.w q) b base zs.toArray) os }

theorem holds_of {e : Env} {H : AHeap} (hH : HRep e H) {id : Nat} {zs : List Int} (hid : H id = some (.blk (zs.map i64))) : Sort.Holds (Value.int .i64) e.w (e.ρ id).1 (e.ρ id).2 zs.toArray := by
  obtain ⟨_, _, c, t, h1, h2, h3⟩ := hH.at_ id _ hid
  intro j hj
  have hjl : j < zs.length := by simpa using hj
  obtain ⟨u, h4, h5, h6⟩ := h3 j (i64 zs[j]) (by simp [hjl])
  have hu : u = .int .i64 zs[j] := by cases h6; rfl
  subst hu
  refine ⟨?_, ?_⟩
  · simp only [World.cell?, h1]
    rw [h4]
    simp [hjl]
  · simp [World.frozen?, h1]

theorem wrote_ok {e : Env} {H : AHeap} (hH : HRep e H) {id : Nat} {cs : List AV} {zs : List Int} (hid : H id = some (.blk cs)) (hl : zs.length = cs.length) (q : Nat) (os : Array Obj) :
    HRep (e.wrote (e.ρ id).1 (e.ρ id).2 q zs os) (H.set id (.blk (zs.map i64))) ∧ Tr e H (e.wrote (e.ρ id).1 (e.ρ id).2 q zs os) (H.set id (.blk (zs.map i64))) ∧
      ∃ (c : Array Value) (t : TypeId), e.w.heap[(e.ρ id).1]? = some (.cells c t (0, 0)) ∧ (e.ρ id).2 + cs.length ≤ c.size ∧ Ext e (e.wrote (e.ρ id).1 (e.ρ id).2 q zs os) := by
  obtain ⟨h0, hI, c, t, h1, h2, h3⟩ := hH.at_ id _ hid
  obtain ⟨c', hc'⟩ : ∃ c', c' = Sort.putCells (Value.int .i64) (e.ρ id).2 zs.toArray c := ⟨_, rfl⟩
  have hsz : c'.size = c.size := by rw [hc']; simp [Sort.putCells]
  have hat : ∀ j (h : j < zs.length), c'[(e.ρ id).2 + j]? = some (.int .i64 zs[j]) := fun j hj => by
    have hlt : (e.ρ id).2 + j < c.size := by omega
    rw [hc']
    unfold Sort.putCells
    rw [Array.getElem?_mapIdx, Array.getElem?_eq_getElem hlt, Option.map_some]
    have hcond : (e.ρ id).2 ≤ (e.ρ id).2 + j ∧ (e.ρ id).2 + j < (e.ρ id).2 + zs.toArray.size := ⟨by omega, by simpa using hj⟩
    rw [if_pos hcond]
    simp [hj]
  have hob : ORep (e.setRow (e.ρ id).1 c') (e.ρ id).1 (e.ρ id).2 (.blk (zs.map i64)) := by
    refine ⟨c', t, setRow_heap _ _ _ _ _ _ h1, by simp; omega, fun j a ha => ?_⟩
    have hj : j < zs.length := by have := (List.getElem?_eq_some_iff.1 ha).1; simpa using this
    refine ⟨.int .i64 zs[j], hat j hj, rfl, ?_⟩
    simp [hj] at ha
    rw [← ha]
    exact .lit _
  have hH1 := hrep_setRow hH hid h1 hsz hob
  have t1 := tr_setRow hH (.blk (zs.map i64)) hid h1 hsz
  have hlt := lt_of_heap h1
  have hp : PTr (e.setRow (e.ρ id).1 c') (e.wrote (e.ρ id).1 (e.ρ id).2 q zs os) := by
    have hsize : (e.setRow (e.ρ id).1 c').w.heap.size = e.w.heap.size := setRow_size _ _ _
    refine ⟨rfl, rfl, fun b hb => ?_, fun b hb => hb, fun b hb => .inl hb, ?_, rfl, rfl, rfl⟩
    · rw [hsize] at hb
      show ((e.w.heap.modify (e.ρ id).1 (Sort.onCells _)) ++ os)[b]? = _
      rw [Array.getElem?_append_left (by simpa using hb), Array.getElem?_modify]
      by_cases hbe : (e.ρ id).1 = b
      · subst hbe
        rw [if_pos rfl, h1]
        show some (Obj.cells (Sort.putCells _ _ _ c) t (0, 0)) = _
        rw [← hc']
        exact (setRow_heap _ _ _ _ _ _ h1).symm
      · rw [if_neg hbe]
        exact (setRow_other _ _ _ _ (fun h => hbe h.symm)).symm
    · rw [hsize]
      show e.w.heap.size ≤ ((e.w.heap.modify (e.ρ id).1 (Sort.onCells _)) ++ os).size
      simp
  exact ⟨hp.hrep hH1, t1.trans (hp.tr hH1), c, t, h1, h2, t1.ext.trans (hp.ext hH1.imm)⟩

section
variable {P : Program} {f : FuncId}

theorem ms_arg {e : Env} {id n : Nat} {v : Value} (h : Rep e (.ms id 0 n 1) v) (h0 : 0 < n) : ∃ cap, v = .slice (some ⟨(e.ρ id).1, (e.ρ id).2, none⟩) n cap ∧ n ≤ cap ∧ id < e.N ∧ ∃ (c : Array Value) (t : TypeId) (fz : Nat × Nat), e.w.heap[(e.ρ id).1]? = some (.cells c t fz) ∧ (e.ρ id).2 + cap ≤ c.size := by
  cases h with
  | ms h hl hroom hsp =>
    rename_i cap ad
    rcases hroom with h1 | ⟨h1, c, t, fz, h2, h3⟩
    · omega
    · subst h1
      exact ⟨cap, by simp, hl, h, c, t, fz, h2, by omega⟩

/-- The sort, out of its contract. -/
theorem sort_acall (hg : goodFn P f = true) (hS : ∀ (blk off cap : Nat) (zs : List Int) (w : World), Sort.Holds (Value.int .i64) w blk off zs.toArray → blk < w.heap.size → zs.length < 4611686018427387904 →
      Calls P f #[.slice (some ⟨blk, off, none⟩) zs.length cap] w fun e w' => e = .returned (.tuple #[]) ∧ ∃ n os, w' = Sort.grow (Sort.putRow (Value.int .i64) (Sort.ahead w n) blk off (zs.mergeSort fun x y => decide (x ≤ y)).toArray) os)
    {H : AHeap} {N id : Nat} {l : List Int} (hH : H id = some (.blk (l.map i64))) (h0 : 0 < l.length) (hl : l.length ≤ 1000000000) :
    ACall P f [.ms id 0 l.length 1] H N (fun r H' N' => r = .tup [] ∧ H' = H.set id (.blk ((l.mergeSort fun x y => decide (x ≤ y)).map i64)) ∧ N' = N) := by
  refine ⟨hg, fun e vs hE hN hvl hr => ?_⟩
  match vs, hvl with
  | [v], _ =>
    obtain ⟨cap, rfl, _, _, _⟩ := ms_arg (hr 0 _ v rfl rfl) h0
    have hid := hE.at_ id _ hH
    refine (hS _ _ cap l e.w (holds_of hE hH) hid.2.2.lt (by omega)).mono ?_
    rintro x w' ⟨rfl, q, os, rfl⟩
    obtain ⟨k1, k2, _⟩ := wrote_ok hE hH (zs := l.mergeSort fun x y => decide (x ≤ y)) (by simp) q os
    exact ⟨_, e.wrote (e.ρ id).1 (e.ρ id).2 q (l.mergeSort fun x y => decide (x ≤ y)) os, .tup [], _, rfl, rfl, ⟨rfl, rfl, hN⟩, .tup (vs := []) rfl (fun i c v h => by simp at h), k1, k2⟩

theorem compact_len (l : List Int) : (Lib.compact l).length ≤ l.length := by
  unfold Lib.compact Lib.compactUpTo
  rw [List.length_map]
  have := List.length_filter_le (Lib.keeps l.toArray) (List.range l.length)
  simpa using this

/-- 'Compact', out of its contract. -/
theorem compact_acall (hg : goodFn P f = true) (hS : ∀ (blk off cap : Nat) (zs : List Int) (w : World), Sort.Holds (Value.int .i64) w blk off zs.toArray → zs.length ≤ 9223372036854775807 → zs.length ≤ cap →
      Calls P f #[.slice (some ⟨blk, off, none⟩) zs.length cap] w fun e w' => e = .returned (.slice (some ⟨blk, off, none⟩) (Lib.compact zs).length cap) ∧ ∃ q, w' = Sort.putRow (Value.int .i64) (Sort.ahead w q) blk off (Lib.compact zs ++ List.replicate (zs.length - (Lib.compact zs).length) 0).toArray)
    {H : AHeap} {N id : Nat} {l : List Int} (hH : H id = some (.blk (l.map i64))) (h0 : 0 < l.length) (hl : l.length ≤ 1000000000) :
    ACall P f [.ms id 0 l.length 1] H N (fun r H' N' => r = .ms id 0 (Lib.compact l).length 1 ∧ H' = H.set id (.blk ((Lib.compact l ++ List.replicate (l.length - (Lib.compact l).length) 0).map i64)) ∧ N' = N) := by
  refine ⟨hg, fun e vs hE hN hvl hr => ?_⟩
  match vs, hvl with
  | [v], _ =>
    obtain ⟨cap, rfl, hcap, hidN, c, t, fz, hc1, hc2⟩ := ms_arg (hr 0 _ v rfl rfl) h0
    have hid := hE.at_ id _ hH
    have hcl := compact_len l
    refine (hS _ _ cap l e.w (holds_of hE hH) (by omega) hcap).mono ?_
    rintro x w' ⟨rfl, q, rfl⟩
    obtain ⟨k1, k2, c2, t2, h1, h2, hx⟩ := wrote_ok hE hH (zs := Lib.compact l ++ List.replicate (l.length - (Lib.compact l).length) 0) (by simp; omega) q #[]
    have hw : (e.wrote (e.ρ id).1 (e.ρ id).2 q (Lib.compact l ++ List.replicate (l.length - (Lib.compact l).length) 0) #[]).w = Sort.putRow (Value.int .i64) (Sort.ahead e.w q) (e.ρ id).1 (e.ρ id).2 (Lib.compact l ++ List.replicate (l.length - (Lib.compact l).length) 0).toArray := by
      simp [Env.wrote]
    obtain ⟨c3, fz3, h4, h5⟩ := hx.shape _ _ _ _ hc1
    refine ⟨_, e.wrote (e.ρ id).1 (e.ρ id).2 q (Lib.compact l ++ List.replicate (l.length - (Lib.compact l).length) 0) #[], .ms id 0 (Lib.compact l).length 1, _, rfl, hw, ⟨rfl, rfl, hN⟩, ?_, k1, k2⟩
    exact .ms (e := e.wrote (e.ρ id).1 (e.ρ id).2 q (Lib.compact l ++ List.replicate (l.length - (Lib.compact l).length) 0) #[]) (id := id) (off := 0) (cap := cap) (ad := ⟨(e.ρ id).1, (e.ρ id).2, none⟩) hidN (by omega) (.inr ⟨rfl, c3, t, fz3, h4, by rw [h5]; show (e.ρ id).2 + 0 + cap * 1 ≤ c.size; omega⟩) rfl

/-- A call whose answer is its argument, which nobody looks at. -/
theorem nil_acall (hg : goodFn P f = true) {r : Value → Value} {ra : AV → AV} (hS : ∀ (w : World), Calls P f #[.slice none 0 0] w fun e w' => e = .returned (r (.slice none 0 0)) ∧ ∃ q, w' = Sort.ahead w q) {k z : Nat}
    (hr : ∀ e : Env, Rep e (ra (.sl .nil z [])) (r (.slice none 0 0))) : PCall P f [.sl .nil z []] (ra (.sl .nil z [])) := by
  refine ⟨hg, fun e vs hi hvl hv => ?_⟩
  match vs, hvl with
  | [v], _ =>
    have h := hv 0 _ v rfl rfl
    have hvn : v = .slice none 0 0 := by
      rcases rep_sl_inv h with ⟨_, _, rfl⟩ | ⟨h0, _⟩ | ⟨h0, _⟩
      · rfl
      · exact absurd rfl h0
      · exact absurd rfl h0
    subst hvn
    refine (hS e.w).mono ?_
    rintro x w' ⟨rfl, q, rfl⟩
    exact ⟨_, { e with w := Sort.ahead e.w q }, rfl, rfl, hr _, rfl, rfl, fun _ _ => rfl, fun _ h => h, fun _ h => .inl h, Nat.le_refl _, rfl, rfl, rfl⟩

end
end Go.Fw
