/- dom: the row of blocks that are reached. -/
import Derived.Test.YtmbbklddjkmcmaaA3
namespace Go.Proofs.Ytmbbklddjkmcmaa
set_option linter.unusedSimpArgs false
set_option linter.unusedVariables false
open Go Go.Fw Go.Dm

theorem view_ints {H : AHeap} {id : Nat} {l : List Int} (h : H id = some (.blk (l.map i64))) (hl : 0 < l.length) : View H (.ms id 0 l.length 1) (.sl .any 1 (intCells l)) := by
  have hne : intCells l ≠ [] := fun h0 => by have := intCells_len l; rw [h0] at this; simp at this; omega
  have hB : Built H 0 1 (.sl .nil 0 []) (intCells l) (.ms id 0 l.length 1) := ⟨intCells_sz l, .inr ⟨hne, id, Nat.zero_le _, by rw [intCells_len], by rw [intCells_flat]; exact h⟩⟩
  have := hB.view (intCells_free l)
  cases l with
  | nil => simp at hl
  | cons a l => exact this

/-- What is known of the row. -/
structure RowOk (g : List RowV) (l : List Nat) : Prop where
  mem : ∀ b, b ∈ l ↔ Rch (Edge g) b
  nodup : l.Nodup
  zero : l[0]? = some 0
  lt : ∀ b ∈ l, b < g.length
  ord : ∃ pr, Ord (Edge g) (fun b => l.idxOf b) pr

theorem p_row (x : GraphV) (hx : x.Ok) (hin : InG x.g) (h0 : 0 < x.g.length) (hn : x.g.length ≤ 32768) :
    PCallS Try.prog 39 [x.av] (fun r => ∃ l, r = .sl .any 1 (intCells (natI l)) ∧ RowOk x.g l) := by
  refine PCallS.of fun N => acallF mixed c_dom_row (by simp) fun hF => ?_
  have hl := x.len
  have hc := x.cells
  have hmk : amake 1 1 [bl false] (i64 x.g.length) (i64 x.g.length) = some (x.g.length, x.g.length) := by
    simp [amake]; omega
  obtain ⟨M, hM⟩ : ∃ M, M = (List.replicate x.g.length false).map bl := ⟨_, rfl⟩
  have hrep : (List.replicate x.g.length [bl false]).flatten = M := by
    rw [hM]; simp
  simp [a_dom_row, hl, hc, hmk, hrep, -alen, -AV.cells]
  have hE : ∀ a c, Edge x.g a c → c < x.g.length := fun a c ⟨r, h1, h2⟩ => by
    have := hin r (List.mem_of_getElem? h1) _ h2
    omega
  have hD0 : DAt ((((noHeap.set N (.blk (List.replicate x.g.length (bl false)))).set (N + 1) (.blk [.ms N 0 x.g.length 1])).set (N + 1 + 1) (.blk [.sl .nil 0 []])).set (N + 1 + 1 + 1) (.blk [vfn N x])) N x (List.replicate x.g.length false) [] :=
    ⟨by simp [show N ≠ N + 1 + 1 + 1 by omega, show N ≠ N + 1 + 1 by omega], by simp [show N + 1 ≠ N + 1 + 1 + 1 by omega], by simp, .sl .nil 0 [], by simp, Built.nil⟩
  have hu0 : unseen (List.replicate x.g.length false) = x.g.length := by simp [unseen]
  refine (a_visit x hx hin hn _ 0 (List.replicate x.g.length false) [] _ (N + 1 + 1 + 1 + 1) N (Nat.le_refl _) (by simp) (by simp [h0]) hD0 (by omega) (by rw [hu0]; simp; omega)).monoF ?_
  rintro r H1 N1 ⟨hN1, hold, seen', new, hD, hV, hcnt⟩ hF1 _
  obtain ⟨v, hv, hB⟩ := hD.ob
  obtain ⟨hm, hnd, hz, hlt, pr, hpr⟩ := visit_ord hV hE h0
  have hnl : 0 < new.length := by
    obtain ⟨l, rfl, _⟩ := hV; simp
  rw [List.nil_append] at hB
  obtain ⟨b1, hb⟩ := hB
  obtain ⟨_, id, hid, rfl, hH⟩ := hb.resolve_left fun h => by
    have h1 := h.1
    cases new with
    | nil => simp at hnl
    | cons a l => cases h1
  rw [intCells_len, natI_len] at hv
  rw [intCells_flat] at hH
  simp [hv]
  rw [hu0] at hcnt
  have hR := a_Reverse (l := natI new) (id := id) hH (by rw [natI_len]; exact hnl) (by rw [natI_len]; omega) N1
  rw [natI_len] at hR
  refine hR.mono ?_
  rintro r2 H2 N2 ⟨rfl, hH2, hold2⟩
  have hv2 : H2 (N + 1 + 1) = some (.blk [.ms id 0 new.length 1]) := by
    rw [hold2 _ (by omega)]; exact hv
  simp [hv2]
  have hrev : (natI new).reverse = natI new.reverse := by simp [natI]
  rw [hrev] at hH2
  have hview := view_ints (H := H2) (id := id) (l := natI new.reverse) hH2 (by rw [natI_len]; simpa using hnl)
  rw [natI_len, List.length_reverse] at hview
  refine ⟨_, hview, _, rfl, ⟨fun b => by rw [List.mem_reverse]; exact hm b, (List.reverse_perm _).nodup_iff.2 hnd, hz, fun b hb => hlt b (List.mem_reverse.1 hb), pr, hpr⟩⟩

end Go.Proofs.Ytmbbklddjkmcmaa
