/- dom: the law DomTree, joined. -/
import Derived.Test.YtmbbklddjkmcmaaB4
namespace Go.Proofs.Ytmbbklddjkmcmaa
set_option linter.unusedSimpArgs false
set_option linter.unusedVariables false
open Go Go.Fw Go.Dm

theorem rchN_all {g : List RowV} {L : List Int} {bs : List Nat} (hT : TreeOk g L bs) : rchN bs g.length = (orderL L bs).length := by
  rw [order_len hT]
  have hnd : ((List.range g.length).filter fun c : Nat => rchI bs (c : Int)).Nodup := List.nodup_range.filter _
  have h1 := List.Nodup.length_le_of_subset (l₂ := bs) hnd (fun c hc => by
    simp only [List.mem_filter] at hc
    have := (rch_iff hT).1 hc.2
    simp at this
    exact (hT.row.mem c).2 this)
  have h2 := List.Nodup.length_le_of_subset (l₂ := (List.range g.length).filter fun c : Nat => rchI bs (c : Int)) hT.row.nodup (fun c hc => by
    simp only [List.mem_filter, List.mem_range]
    exact ⟨hT.row.lt c hc, rchI_of hT ((hT.row.mem c).1 hc)⟩)
  unfold rchN
  omega

theorem p_DomTree (x : GraphV) (hx : x.Ok) (w : BytesV) (hw : w.Ok) (H : AHeap) (N : Nat) : ACall Try.prog 5 [x.av, w.av] H N (fun r _ _ => r = bl true) := by
  refine acall mixed c_bobbinlaw12_DomTree (by simp) ?_
  unfold a_bobbinlaw12_DomTree
  obtain ⟨_, ea⟩ : ∃ c, a_Tree_all = c := ⟨_, rfl⟩
  rw [ea]
  obtain ⟨_, es⟩ : ∃ c, a_Tree_seen = c := ⟨_, rfl⟩
  rw [es]
  obtain ⟨_, ew⟩ : ∃ c, a_Tree_way = c := ⟨_, rfl⟩
  rw [ew]
  have hlen := x.len
  have hwlen : alen 1 w.av = some (w.l.length : Int) := by simp [BytesV.av]
  simp
  refine (p_long x hx _ _).mono ?_
  rintro r H1 N1 ⟨rfl, rfl, lb, rfl, hsh⟩
  cases lb with
  | true =>
    simp
    exact p_awake.acall rfl
  | false =>
    have hs := hsh rfl
    by_cases h200 : 200 < w.l.length
    · simp [hwlen, show (200 : Int) < w.l.length by omega, -alen]
      exact p_awake.acall rfl
    · simp [hwlen, show ¬ (200 : Int) < w.l.length by omega, -alen]
      refine p_awake.acall ?_
      simp
      refine (p_Of x hx (by have := hs.e; omega)).acall ?_
      intro r hr
      by_cases hm : mayG x.g = true
      · rw [if_pos hm] at hr
        obtain ⟨L, bs, hT, rfl⟩ := hr
        have hm' := hm
        simp [mayG] at hm'
        obtain ⟨h0, hn', hall⟩ := hm'
        have hin : InG x.g := fun r hr v hv => by
          have := hall r hr v hv
          simp [outG] at this
          exact this
        have hn := hs.n
        have hmk : amake 1 1 [bl false] (i64 x.g.length) (i64 x.g.length) = some (x.g.length, x.g.length) := by
          simp [amake]; omega
        simp
        rw [← ea]
        refine tree_all (x := x) hn hT ?_ ?_ ?_ ?_
        · rfl
        · rfl
        · rfl
        intro A2 H2 N2 hA2 h7
        simp at hA2
        simp [hA2]
        refine (a_Order hT hn' _ _).monoF ?_
        rintro v H3 N3 ⟨hN3, _, hB⟩ hF3 _
        simp [hA2, hlen, hmk, -alen]
        rw [← es]
        have hvl := hB.rd.len
        rw [intCells_len, natI_len] at hvl
        have hB' := Built.lower (built_later (H' := H3.set N3 (.blk (List.replicate x.g.length (bl false)))) hB hF3 (fun j hj => by simp [show j ≠ N3 by omega])) (Nat.zero_le N2)
        have hne : ∀ i n, v = .ms i 0 n 1 → i ≠ N3 := fun i n hv => by
          obtain ⟨_, ⟨_, h3, _⟩ | ⟨_, i3, _, h3, h4⟩⟩ := hB
          · rw [hv] at h3; cases h3
          · rw [hv] at h3; cases h3
            have := hF3.lt h4
            omega
        refine tree_seen (x := x) (v := v) (id := N3) hn hT ?_ ?_ ?_ ?_ ?_ hB' hne ?_
        · simp [hA2]
        · simp [hA2]
        · simp
        · simp
        · simp; exact marks_none
        intro A4 H4 hA4 _
        simp at hA4
        simp [hA4, hA2, hlen, hmk, -alen]
        rw [← ew]
        refine tree_way (x := x) hx hin hw (id := N3 + 1) hn (by omega) hT ?_ ?_ ?_ ?_ ?_ ?_ ?_
        · simp [hA4, hA2]
        · simp [hA4, hA2]
        · simp [hA4, hA2]
        · simp
        · simp
        · simp; exact marks_none
        intro A5 H5 hA5
        simp at hA5
        simp [hA5, hA4, hA2, hvl, h7, rchN_all hT, -alen]
      · rw [if_neg hm] at hr
        subst hr
        simp

end Go.Proofs.Ytmbbklddjkmcmaa
