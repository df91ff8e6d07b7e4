/- dom: the walk in depth. -/
import Derived.Test.YtmbbklddjkmcmaaA2
import Derived.Test.YtmbbklddjkmcmaaD3
namespace Go.Proofs.Ytmbbklddjkmcmaa
set_option linter.unusedSimpArgs false
set_option linter.unusedVariables false
open Go Go.Fw Go.Dm

/-- From a one goes to c. -/
def Edge (g : List RowV) (a c : Nat) : Prop := ∃ r, g[a]? = some r ∧ (c : Int) ∈ r.l
def natI (l : List Nat) : List Int := l.map fun (v : Nat) => (v : Int)
theorem natI_app (l r : List Nat) : natI (l ++ r) = natI l ++ natI r := by simp [natI]
theorem natI_len (l : List Nat) : (natI l).length = l.length := by simp [natI]

/-- All ways lead to blocks. -/
def InG (g : List RowV) : Prop := ∀ r ∈ g, ∀ v ∈ r.l, 0 ≤ v ∧ v < g.length

def vfn (o : Nat) (x : GraphV) : AV := .fn (.func 57) [] [.mp (o + 1) 0, .ip [x.av] 0, .mp (o + 3) 0, .mp (o + 2) 0]
/-- While one walks in depth. -/
structure DAt (H : AHeap) (o : Nat) (x : GraphV) (seen : List Bool) (out : List Int) : Prop where
  s : H o = some (.blk (seen.map bl))
  sb : H (o + 1) = some (.blk [.ms o 0 seen.length 1])
  vb : H (o + 3) = some (.blk [vfn o x])
  ob : ∃ v, H (o + 2) = some (.blk [v]) ∧ Built H (o + 4) 1 (.sl .nil 0 []) (intCells out) v

theorem DAt.keep {H H' : AHeap} {o : Nat} {x : GraphV} {seen seen' : List Bool} {out : List Int} (h : DAt H o x seen out) (h1 : H' o = some (.blk (seen'.map bl))) (hl : seen'.length = seen.length) (hk : ∀ j, o < j → H' j = H j) : DAt H' o x seen' out := by
  obtain ⟨v, hv, hB⟩ := h.ob
  exact ⟨h1, by rw [hk _ (by omega), hl]; exact h.sb, by rw [hk _ (by omega)]; exact h.vb, v, by rw [hk _ (by omega)]; exact hv, hB.keep fun j hj => hk j (by omega)⟩

theorem a_visit (x : GraphV) (hx : x.Ok) (hin : InG x.g) (hn : x.g.length ≤ 32768) : ∀ (m : Nat) (b : Nat) (seen : List Bool) (out : List Int) (H : AHeap) (N o : Nat), unseen seen ≤ m → seen.length = x.g.length → seen[b]? = some false → DAt H o x seen out → o + 4 ≤ N → out.length + unseen seen ≤ 1000000 →
    ACall Try.prog 57 [i64 b, .mp (o + 1) 0, .ip [x.av] 0, .mp (o + 3) 0, .mp (o + 2) 0] H N (fun _ H' N' => N ≤ N' ∧ (∀ j, j < o → H' j = H j) ∧ ∃ seen' new, DAt H' o x seen' (out ++ natI new) ∧ Visit (Edge x.g) b seen seen' new ∧ new.length + unseen seen' ≤ unseen seen)
  | 0, b, seen, out, H, N, o, hm, hlen, hb, hD, hN, hout => by
    have := unseen_set hb
    omega
  | m + 1, b, seen, out, H, N, o, hm, hlen, hb, hD, hN, hout => by
    have hmx : maxLen = 9223372036854775807 := rfl
    have hbl : b < seen.length := (List.getElem?_eq_some_iff.1 hb).1
    have hbg : b < x.g.length := by omega
    have hu := unseen_set hb
    have hr := hx.rows _ (List.getElem_mem hbg)
    have hrll := hr.hl
    have hrl : x.g[b]? = some x.g[b] := by simp [hbg]
    have hs := hD.s
    have hsb := hD.sb
    have hix : aindex 1 (.ms o 0 seen.length 1) (i64 b) = some (.mp o b) := by simp [aindex, hbl]
    obtain ⟨q, hq, qq⟩ := (hx.rd noHeap).at (gCells_sz _) (gCells_at hbg)
    refine acallF mixed c_dom_row_1 (by simp) fun hF0 => ?_
    obtain ⟨M, hM⟩ : ∃ M, M = (seen.set b true).map bl := ⟨_, rfl⟩
    have hset : (seen.map bl).set b (bl true) = M := by rw [hM, List.map_set]
    have hxq : q = .ip [x.g[b].av] 0 := by
      rcases qq with rfl | ⟨id, off, ds, rfl, h1, _⟩
      · rfl
      · cases h1
    subst hxq
    have hrlen := (hr.rd noHeap).len
    rw [intCells_len] at hrlen
    simp [a_dom_row_1, hs, hsb, hix, show b + 1 ≤ seen.length by omega, hset, hq, hrlen, -alen]
    have hD1 : DAt (H.set o (.blk M)) o x (seen.set b true) out := hD.keep (by simp [hM]) (by simp) fun j hj => by simp [show j ≠ o by omega]
    have hl1 : (seen.set b true).length = x.g.length := by simp [hlen]
    refine run_loop (fun k s => ∃ (j : Nat) (seen1 : List Bool) (acc : List Nat), j ≤ x.g[b].l.length ∧ k = x.g[b].l.length - j ∧ s.A 0 = i64 b ∧ s.A 1 = .mp (o + 1) 0 ∧ s.A 3 = .mp (o + 3) 0 ∧ s.A 4 = .mp (o + 2) 0 ∧ s.A 14 = x.g[b].av ∧
        s.A 15 = i64 x.g[b].l.length ∧ s.A 16 = i64 j ∧ N ≤ s.N ∧ Fresh s.H s.N ∧ (∀ j, j < o → s.H j = H j) ∧ DAt s.H o x seen1 (out ++ natI acc) ∧ Going (Edge x.g) b (seen.set b true) seen1 acc ∧ acc.length + unseen seen1 ≤ unseen (seen.set b true) ∧
        ∀ i, i < j → ∀ c : Nat, x.g[b].l[i]? = some (c : Int) → seen1[c]? = some true) x.g[b].l.length ?_ ?_
    · exact ⟨0, seen.set b true, [], by omega, by omega, by simp, by simp, by simp, by simp, by simp, by simp, by simp, Nat.le_refl _, (fun id hid => by have hid : N ≤ id := hid; simp [show id ≠ o by omega, hF0 id hid]), fun j hj => by simp [show j ≠ o by omega], by simpa [natI] using hD1, .start, by simp, fun i hi => by omega⟩
    · rintro k A H1 N1 ⟨j, seen1, acc, hj, rfl, h0, h1, h3, h4, h14, h15, h16, hN1, hF1, hold, hDA, hG, hcnt, hdone⟩
      simp only at h0 h1 h3 h4 h14 h15 h16 hN1 hF1 hold hDA
      obtain ⟨v, hv, hB⟩ := hDA.ob
      by_cases hjl : j = x.g[b].l.length
      · subst hjl
        obtain ⟨v', H2, N2, happ, hB2, hold2, hN2, hF2⟩ := app_ints hB hF1 (by omega) (asrc_one H1 (b : Int)) (by have := natI_len acc; simp only [List.length_append, natI_len, List.length_cons, List.length_nil]; omega)
        have ho2 : H2 (o + 2) = some (.blk [v]) := (hold2 _ (by omega)).trans hv
        simp [a_dom_row_1b1, h15, h16, h4, h0, hv, happ, ho2, hB2.rd.cells, -AV.cells]
        refine ⟨by omega, fun j hj => ?_, seen1, acc ++ [b], ⟨?_, ?_, ?_, v', ?_, ?_⟩, hG.done hb ?_, ?_⟩
        · simp [show j ≠ o + 2 by omega, hold2 j (by omega), hold j hj]
        · simp [hold2 o (by omega)]; exact hDA.s
        · simp [hold2 (o + 1) (by omega)]; exact hDA.sb
        · simp [hold2 (o + 3) (by omega)]; exact hDA.vb
        · simp
        · rw [natI_app, ← List.append_assoc]
          exact hB2.keep fun j hj => by simp [show j ≠ o + 2 by omega]
        · rintro c ⟨r, hr1, hr2⟩
          rw [hrl] at hr1; cases hr1
          obtain ⟨i, hi, hic⟩ := List.getElem_of_mem hr2
          exact hdone i hi c (by rw [List.getElem?_eq_getElem hi, hic])
        · simp; omega
      · have hlt : j < x.g[b].l.length := by omega
        obtain ⟨c, hc⟩ : ∃ c : Nat, x.g[b].l[j] = (c : Int) := ⟨x.g[b].l[j].toNat, by have := hin _ (List.getElem_mem hbg) _ (List.getElem_mem hlt); omega⟩
        have hcg : c < x.g.length := by have := hin _ (List.getElem_mem hbg) _ (List.getElem_mem hlt); omega
        have hl2 : seen1.length = x.g.length := by rw [hG.dfs.len, hl1]
        have hcl : c < seen1.length := by omega
        obtain ⟨q2, hq2, qq2⟩ := (hr.rd noHeap).at (intCells_sz _) (intCells_at hlt)
        have hxq2 : q2 = .ip [i64 c] 0 := by
          rcases qq2 with rfl | ⟨id, off, ds, rfl, h1, _⟩
          · rw [hc]
          · cases h1
        subst hxq2
        have hs1 := hDA.s
        have hsb1 := hDA.sb
        have hvb1 := hDA.vb
        have hix2 : aindex 1 (.ms o 0 seen1.length 1) (i64 c) = some (.mp o c) := by simp [aindex, hcl]
        have hE : Edge x.g b c := ⟨_, hrl, by rw [← hc]; exact List.getElem_mem hlt⟩
        have hnext : ∀ (seen2 : List Bool), (∀ y : Nat, seen1[y]? = some true → seen2[y]? = some true) → seen2[c]? = some true → ∀ i, i < j + 1 → ∀ d : Nat, x.g[b].l[i]? = some (d : Int) → seen2[d]? = some true := fun seen2 hk hc2 i hi d hd => by
          rcases Nat.lt_or_ge i j with h | h
          · exact hk d (hdone i h d hd)
          · have : i = j := by omega
            subst this
            rw [List.getElem?_eq_getElem hlt, hc] at hd
            have : d = c := by have := Option.some.inj hd; omega
            rw [this]; exact hc2
        by_cases hsc : seen1[c] = true
        · simp [a_dom_row_1b1, h15, h16, h14, h1, hlt, hq2, hs1, hsb1, hix2, hcl, hsc]
          have hsc' : seen1[c]? = some true := by rw [List.getElem?_eq_getElem hcl, hsc]
          refine ⟨x.g[b].l.length - (j + 1), by omega, j + 1, by omega, rfl, h0, h3, h4, by rw [wrap_i64 (by omega) (by omega)]; rfl, hN1, hF1, hold, seen1, acc, hDA, hG, hcnt, hnext seen1 (fun _ h => h) hsc'⟩
        · have hsc' : seen1[c]? = some false := by rw [List.getElem?_eq_getElem hcl]; simpa using hsc
          simp [a_dom_row_1b1, h15, h16, h14, h1, h3, hlt, hq2, hs1, hsb1, hvb1, hix2, hcl, hsc, vfn]
          refine (a_visit x hx hin hn m c seen1 (out ++ natI acc) H1 N1 o (by omega) hl2 hsc' hDA (by omega) (by rw [List.length_append, natI_len]; omega)).monoF ?_
          rintro r H2 N2 ⟨hN2, hold2, seen2, new, hDA2, hV, hcnt2⟩ hF2 _
          have hG2 := hG.child hE hV
          have hkeep : ∀ y : Nat, seen1[y]? = some true → seen2[y]? = some true := fun y hy => by
            obtain ⟨_, _, hd, _⟩ := hV
            exact (hd.mem y).2 (.inl hy)
          have hc2 : seen2[c]? = some true := by
            obtain ⟨l, rfl, hd, _⟩ := hV
            exact (hd.mem c).2 (.inr (by simp))
          simp [h16]
          refine ⟨x.g[b].l.length - (j + 1), by omega, j + 1, by omega, rfl, h0, h1, h3, h4, h14, h15, by rw [wrap_i64 (by omega) (by omega)]; rfl, by omega, hF2, fun i hi => (hold2 i hi).trans (hold i hi), seen2, acc ++ new, by rw [natI_app, ← List.append_assoc]; exact hDA2, hG2, by rw [List.length_append]; omega, hnext seen2 hkeep hc2⟩

/-- A slice's numbers turned about. -/
theorem a_Reverse {H : AHeap} {id : Nat} {l : List Int} (hH : H id = some (.blk (l.map i64))) (hl0 : 0 < l.length) (hl : l.length ≤ 1000000000) (N : Nat) :
    ACall Try.prog 58 [.ms id 0 l.length 1] H N (fun _ H' N' => N' = N ∧ H' id = some (.blk (l.reverse.map i64)) ∧ ∀ j, j ≠ id → H' j = H j) := by
  refine acall mixed c_slices_Reverse_int_int (by simp) ?_
  simp [a_slices_Reverse_int_int]
  refine run_loop (fun k s => ∃ (i : Nat) (m : List Int), k = l.length - i ∧ 2 * i ≤ l.length + 1 ∧ m.length = l.length ∧ s.A 0 = .ms id 0 l.length 1 ∧ s.A 2 = i64 i ∧ s.A 3 = i64 ((l.length : Int) - 1 - i) ∧ s.N = N ∧ s.H id = some (.blk (m.map i64)) ∧ (∀ j, j ≠ id → s.H j = H j) ∧
      (∀ k, k < l.length → m[k]? = if k < i ∨ l.length ≤ k + i then l[l.length - 1 - k]? else l[k]?)) l.length ?_ ?_
  · refine ⟨0, l, by omega, by omega, rfl, by simp, by simp, ?_, rfl, hH, fun _ _ => rfl, fun k hk => ?_⟩
    · simp; rw [wrap_i64 (by omega) (by omega)]
    · rw [if_neg (by omega)]
  · rintro k A H1 N1 ⟨i, m, rfl, hi, hml, h0, h2, h3, rfl, hm, hold, hval⟩
    simp only at h0 h2 h3 hm hold
    by_cases hij : 2 * i < l.length - 1
    · have hjn : ∃ j : Nat, (l.length : Int) - 1 - i = (j : Int) ∧ j + i + 1 = l.length := ⟨l.length - 1 - i, by omega, by omega⟩
      obtain ⟨j, hj, hji⟩ := hjn
      rw [hj] at h3
      have hi1 : aindex 1 (.ms id 0 l.length 1) (i64 i) = some (.mp id i) := by simp [aindex, show i < l.length by omega]
      have hj1 : aindex 1 (.ms id 0 l.length 1) (i64 j) = some (.mp id j) := by simp [aindex, show j < l.length by omega]
      have mi : (m.map i64)[i]? = some (i64 (m[i]'(by omega))) := by simp [show i < m.length by omega]
      have mj : (m.map i64)[j]? = some (i64 (m[j]'(by omega))) := by simp [show j < m.length by omega]
      simp [a_slices_Reverse_int_intb1, h0, h2, h3, show (i : Int) < j by omega, hi1, hj1, hm, mi, mj, hml, show i + 1 ≤ l.length by omega, show j + 1 ≤ l.length by omega, show i < l.length by omega, show j < l.length by omega]
      refine ⟨l.length - (i + 1), by omega, i + 1, rfl, by omega, (m.set i (m[j]'(by omega))).set j (m[i]'(by omega)), by simp [hml], by rw [wrap_i64 (by omega) (by omega)]; rfl, by rw [wrap_i64 (by omega) (by omega)]; omega, by simp [List.map_set], fun k hk => by simp [hk, hold k hk], fun k hk => ?_⟩
      rw [List.getElem?_set, List.getElem?_set]
      by_cases hkj : j = k
      · subst hkj
        rw [if_pos rfl, if_pos (by simp [hml]; omega), if_pos (by omega)]
        have := hval i (by omega)
        rw [if_neg (by omega), List.getElem?_eq_getElem (by omega)] at this
        rw [this, show l.length - 1 - j = i by omega]
      · rw [if_neg hkj]
        by_cases hki : i = k
        · subst hki
          rw [if_pos rfl, if_pos (by omega), if_pos (by omega)]
          have := hval j (by omega)
          rw [if_neg (by omega), List.getElem?_eq_getElem (by omega)] at this
          rw [this, show l.length - 1 - i = j by omega]
        · rw [if_neg hki, hval k hk]
          by_cases h : k < i ∨ l.length ≤ k + i
          · rw [if_pos h, if_pos (by omega)]
          · rw [if_neg h, if_neg (by omega)]
    · simp [a_slices_Reverse_int_intb1, h0, h2, h3, show ¬ (i : Int) < (l.length : Int) - 1 - i by omega]
      refine ⟨?_, hold⟩
      rw [hm]
      congr 2
      have : m = l.reverse := by
        refine List.ext_getElem? fun k => ?_
        rcases Nat.lt_or_ge k l.length with h | h
        · rw [hval k h, List.getElem?_reverse h]
          split
          · rfl
          · congr 1; omega
        · rw [List.getElem?_eq_none (by omega), List.getElem?_eq_none (by simpa using h)]
      rw [this]; simp

end Go.Proofs.Ytmbbklddjkmcmaa
