/- The framework: G1, G0, GA, GB, G2, G3, G4. -/
import Derived.Test.YtefejpckppabpaaGreatDoorM1
import Derived.Laws.StructEq
/- Framework, part 10: append. -/
namespace Go.Fw
set_option linter.unusedSimpArgs false
set_option linter.unusedVariables false
open Go
set_option linter.unusedSectionVars false
variable [Globals]

section
variable {P : Program} {e : Env} {H : AHeap}

theorem append_fits {t ty el : TypeId} {i : TypeInfo} (ht : P.underlying t = some (.slice el)) (hi : P.info? el = some i) {w w' : World} {base : Option Addr} {n cap m : Nat} {v : Value} {news : List Value}
    (hv : ∃ a c, v = .slice a m c) (hf : (Builtin.firstCells i.size m v).run P w = .ok news.toArray w) (hroom : n + m ≤ cap)
    (hst : ∀ a, base = some a → (storeCells (a.add (n * i.size)) news).run P w = .ok () w') (hn : base = none → w' = w) :
    (Builtin.append_ #[t, t] ty #[.slice base n cap, v]).run P w = .ok (.slice base (n + m) cap) w' := by
  obtain ⟨a, c, rfl⟩ := hv
  cases base with
  | none =>
    rw [hn rfl]
    simp [Builtin.append_, run_underlying ht, sizeOf, typeInfo, hi, Builtin.lenOf, hroom, hf]
  | some b =>
    have := hst b rfl
    simp [Builtin.append_, run_underlying ht, sizeOf, typeInfo, hi, Builtin.lenOf, hroom, hf, this]

theorem append_grows {t ty el : TypeId} {i : TypeInfo} {z : Value} (ht : P.underlying t = some (.slice el)) (hi : P.info? el = some i) (hz : i.zero = some z) {w : World} {base : Option Addr} {n cap m : Nat} {v : Value} {olds news : List Value}
    (hv : ∃ a c, v = .slice a m c) (hf : (Builtin.firstCells i.size m v).run P w.drew = .ok news.toArray w.drew) (hfo : (Builtin.firstCells i.size n (.slice base n cap)).run P w.drew = .ok olds.toArray w.drew)
    (hg : cap < n + m) (h63 : n + m ≤ 9223372036854775807) (hb : (n + m) * i.bytes ≤ 140737488355328) :
    (Builtin.append_ #[t, t] ty #[.slice base n cap, v]).run P w = .ok (.slice (some ⟨w.heap.size, 0, none⟩) (n + m) (grownCap w (n + m) cap el))
      (w.drew.alloc (.cells (olds ++ news ++ (Builtin.zeroCells z.cells (grownCap w (n + m) cap el - (n + m))).toList).toArray el)) := by
  obtain ⟨a, c, rfl⟩ := hv
  have hn : ¬ (n + m ≤ cap) := by omega
  have h63' : ¬ (9223372036854775807 < ((n : Int) + (m : Int))) := by omega
  have hfit := growslice_fits hg hb
  have h48' : ¬ (281474976710656 < Builtin.nextslicecap (n + m) cap * i.bytes) := by omega
  simp [Builtin.append_, run_underlying ht, sizeOf, typeInfo, zeroValue, hi, hz, Builtin.lenOf, hn, h63', h48', Question.forced, hf, hfo, newRow, grownCap]
  congr 2
  apply Array.ext'
  simp [List.append_assoc]

/-- The bound under which a slice may grow. -/
def lim : Nat := 140737488355328

/-- 'append'. 'fz': nobody writes the answer any more. -/
def aappend (fz : Bool) (sz bytes : Nat) (H : AHeap) (N : Nat) (x y : AV) : Option (AV × AHeap × Nat) :=
  match asrc H sz y with
  | none => none
  | some (news, m) =>
    match x with
    | .sl .nil sz' [] =>
      if m = 0 then some (.sl .nil sz' [], H, N)
      else if m * bytes ≤ lim ∧ m ≤ 9223372036854775807 then (if fz = true then some (.sl .any sz (chunks sz m news), H, N) else some (.ms N 0 m sz, H.set N (.blk news), N + 1)) else none
    | .sl .exact sz' es =>
      if m = 0 then some (.sl .exact sz' es, H, N)
      else if (sz' = sz ∨ es = []) ∧ (es.length + m) * bytes ≤ lim ∧ es.length + m ≤ 9223372036854775807 then
        (if fz = true then some (.sl .any sz (chunks sz (es.length + m) (es.flatten ++ news)), H, N) else some (.ms N 0 (es.length + m) sz, H.set N (.blk (es.flatten ++ news)), N + 1)) else none
    | .ms id off len sz' =>
      match H id with
      | some (.blk cs) =>
        if sz' = sz ∧ off + len * sz ≤ cs.length ∧ (len + m) * bytes ≤ lim ∧ len + m ≤ 9223372036854775807 then
          some (.ms N 0 (len + m) sz, (H.del id).set N (.blk ((cs.drop off).take (len * sz) ++ news)), N + 1) else none
      | _ => none
    | _ => none

theorem RelC.memAt_new {cs : List AV} {us rest : List Value} (hH : HRep e H) (t : TypeId) (h : RelC e cs us) :
    HRep (e.allocI (.cells (us ++ rest).toArray t)) H ∧ Tr e H (e.allocI (.cells (us ++ rest).toArray t)) H ∧ MemAt (e.allocI (.cells (us ++ rest).toArray t)) e.w.heap.size 0 cs :=
  ⟨hrep_allocI hH _, tr_allocI hH _, memAt_allocI hH t h⟩

/-- The new memory of an append, written or not. -/
theorem grown_new (fz : Bool) (hH : HRep e H) {el : TypeId} {cs : List AV} {us rest : List Value} {sz n cap : Nat} (hr : RelC e cs us) (hl : cs.length = n * sz) (hcap : n ≤ cap) (hrest : us.length + rest.length = cap * sz) :
    ∃ e', e'.w = e.w.drew.alloc (.cells (us ++ rest).toArray el) ∧
      (if fz = true then Rep e' (.sl .any sz (chunks sz n cs)) (.slice (some ⟨e.w.heap.size, 0, none⟩) n cap) ∧ HRep e' H ∧ e'.N = e.N ∧ Tr e H e' H
       else Rep e' (.ms e.N 0 n sz) (.slice (some ⟨e.w.heap.size, 0, none⟩) n cap) ∧ HRep e' (H.set e.N (.blk cs)) ∧ e'.N = e.N + 1 ∧ Tr e H e' (H.set e.N (.blk cs))) := by
  have hH' := hrep_drew hH
  have hr' : RelC e.drew cs us := hr.ext (ext_drew e)
  cases fz with
  | true =>
    obtain ⟨h1, h2, h3⟩ := hr'.memAt_new (rest := rest) hH' el
    refine ⟨e.drew.allocI (.cells (us ++ rest).toArray el), rfl, ?_⟩
    rw [if_pos rfl]
    refine ⟨rep_chunks (by simp) ?_ hcap (by simp) (by omega) h3, h1, rfl, (tr_drew e H).trans h2⟩
    exact .inr rfl
  | false =>
    obtain ⟨h1, h2⟩ := new_obj hH' el (rest := rest) hr'.1 hr'.2
    refine ⟨e.drew.allocO (.cells (us ++ rest).toArray el), rfl, ?_⟩
    rw [if_neg (by simp)]
    refine ⟨?_, h1, rfl, (tr_drew e H).trans h2⟩
    exact rep_new_ms (e := e.drew) el hcap (by simp; omega)

theorem aappend_run {fz : Bool} (hH : HRep e H) {t ty el : TypeId} (ht : P.underlying t = some (.slice el)) {ti : TypeInfo} (hi : P.info? el = some ti) {z : Value} (hz : ti.zero = some z) (hzs : z.cells.size = ti.size)
    {x y r : AV} {H' : AHeap} {N' : Nat} {vx vy : Value} (h : aappend fz ti.size ti.bytes H e.N x y = some (r, H', N')) (hx : Rep e x vx) (hy : Rep e y vy) :
    ∃ u e', (Builtin.append_ #[t, t] ty #[vx, vy]).run P e.w = .ok u e'.w ∧ Rep e' r u ∧ HRep e' H' ∧ e'.N = N' ∧ Tr e H e' H' := by
  unfold aappend at h
  split at h
  · cases h
  rename_i news m hsrc
  obtain ⟨us, hus, hul, hv, huslen, hfirst⟩ := asrc_run (P := P) hH hsrc hy
  have hge : ∀ (need old : Nat), need ≤ grownCap e.w need old el := fun need old => grownCap_ge e.w need old el
  have hzl : ∀ k, (Builtin.zeroCells z.cells k).toList.length = k * ti.size := fun k => by simp [Builtin.zeroCells, hzs]
  -- what a growing append leaves
  have grow : ∀ (fz : Bool) {n cap : Nat} {base : Option Addr} {ocs : List AV} {olds : List Value}, RelC e ocs olds → ocs.length = n * ti.size →
      (Builtin.firstCells ti.size n (.slice base n cap)).run P e.w.drew = .ok olds.toArray e.w.drew → cap < n + m → n + m ≤ 9223372036854775807 → (n + m) * ti.bytes ≤ lim →
      ∃ u e', (Builtin.append_ #[t, t] ty #[.slice base n cap, vy]).run P e.w = .ok u e'.w ∧
        (if fz = true then Rep e' (.sl .any ti.size (chunks ti.size (n + m) (ocs ++ news))) u ∧ HRep e' H ∧ e'.N = e.N ∧ Tr e H e' H
         else Rep e' (.ms e.N 0 (n + m) ti.size) u ∧ HRep e' (H.set e.N (.blk (ocs ++ news))) ∧ e'.N = e.N + 1 ∧ Tr e H e' (H.set e.N (.blk (ocs ++ news)))) := by
    intro fz n cap base ocs olds hol hoc hfo hg h63 hb
    have hrun := append_grows (P := P) (ty := ty) ht hi hz hv (hfirst e.w.drew rfl) hfo hg h63 hb
    have hr : RelC e (ocs ++ news) (olds ++ us) := hol.append hus
    obtain ⟨e', he', hpost⟩ := grown_new (fz := fz) hH (el := el) (n := n + m) (cap := grownCap e.w (n + m) cap el) (sz := ti.size) (rest := (Builtin.zeroCells z.cells (grownCap e.w (n + m) cap el - (n + m))).toList) hr
      (by rw [List.length_append, hoc, hul, Nat.add_mul]) (hge _ _) (by
        rw [List.length_append, hol.1, hoc, huslen, hzl, ← Nat.add_mul, ← Nat.add_mul]
        congr 1
        have := hge (n + m) cap
        omega)
    refine ⟨.slice (some ⟨e.w.heap.size, 0, none⟩) (n + m) (grownCap e.w (n + m) cap el), e', ?_, hpost⟩
    rw [hrun, he']
  split at h
  · -- nil
    rename_i sz'
    rcases rep_sl_inv hx with ⟨_, _, rfl⟩ | ⟨hk, _⟩ | ⟨hk, _⟩
    rotate_right
    · exact absurd rfl hk
    · split at h
      · rename_i hm0
        simp only [Option.some.injEq, Prod.mk.injEq] at h
        obtain ⟨rfl, rfl, rfl⟩ := h
        subst hm0
        refine ⟨_, e, append_fits (P := P) (w' := e.w) ht hi hv (hfirst e.w rfl) (Nat.le_refl _) (fun a ha => by cases ha) (fun _ => rfl), .slNil sz', hH, rfl, .refl e H⟩
      · split at h
        · rename_i hm0 hc
          obtain ⟨h1, h2⟩ := hc
          obtain ⟨u, e', hrun, hpost⟩ := grow fz (n := 0) (cap := 0) (base := none) (ocs := []) (olds := []) ⟨rfl, fun i a u ha => by simp at ha⟩ (by simp) (run_firstCells_none (P := P) _ _ _ _ _)
            (by omega) (by omega) (by simpa using h1)
          simp only [Nat.zero_add, List.nil_append] at hpost
          refine ⟨u, e', hrun, ?_⟩
          split at h
          · rename_i hfz
            rw [if_pos hfz] at hpost
            simp only [Option.some.injEq, Prod.mk.injEq] at h
            obtain ⟨rfl, rfl, rfl⟩ := h
            exact hpost
          · rename_i hfz
            rw [if_neg hfz] at hpost
            simp only [Option.some.injEq, Prod.mk.injEq] at h
            obtain ⟨rfl, rfl, rfl⟩ := h
            exact hpost
        · cases h
    · exact absurd rfl hk
  · -- exact
    rename_i sz' es
    rcases rep_sl_inv hx with ⟨hk, _⟩ | ⟨_, b, o, cap, rfl, hcap, hex, hI, hel, hm⟩ | ⟨_, rfl, ad, rfl⟩
    rotate_right
    · split at h
      · rename_i hm0
        simp only [Option.some.injEq, Prod.mk.injEq] at h
        obtain ⟨rfl, rfl, rfl⟩ := h
        subst hm0
        have hus0 : us = [] := List.eq_nil_of_length_eq_zero (by omega)
        subst hus0
        refine ⟨_, e, append_fits (P := P) (w' := e.w) ht hi hv (hfirst e.w rfl) (Nat.le_refl _) (fun a ha => rfl) (fun _ => rfl), hx, hH, rfl, .refl e H⟩
      · split at h
        · rename_i hm0 hc
          obtain ⟨h0, h1, h2⟩ := hc
          simp only [List.length_nil, Nat.zero_add] at h1 h2
          obtain ⟨u, e', hrun, hpost⟩ := grow fz (n := 0) (cap := 0) (base := some ad) (ocs := []) (olds := []) ⟨rfl, fun i a u ha => by simp at ha⟩ (by simp)
            (run_firstCells_some (P := P) e.w.drew ti.size 0 ad 0 0 [] (by simp) (fun j u hu => by simp at hu)) (by omega) (by omega) (by simpa using h1)
          refine ⟨u, e', hrun, ?_⟩
          simp only [List.length_nil, List.flatten_nil] at h
          split at h
          · rename_i hfz
            rw [if_pos hfz] at hpost
            simp only [Option.some.injEq, Prod.mk.injEq] at h
            obtain ⟨rfl, rfl, rfl⟩ := h
            exact hpost
          · rename_i hfz
            rw [if_neg hfz] at hpost
            simp only [Option.some.injEq, Prod.mk.injEq] at h
            obtain ⟨rfl, rfl, rfl⟩ := h
            exact hpost
        · cases h
    · cases hk
    · have hce : cap = es.length := hex rfl
      subst hce
      split at h
      · rename_i hm0
        simp only [Option.some.injEq, Prod.mk.injEq] at h
        obtain ⟨rfl, rfl, rfl⟩ := h
        subst hm0
        have hus0 : us = [] := List.eq_nil_of_length_eq_zero (by omega)
        subst hus0
        refine ⟨_, e, append_fits (P := P) (w' := e.w) ht hi hv (hfirst e.w rfl) (Nat.le_refl _) (fun a ha => rfl) (fun _ => rfl), hx, hH, rfl, .refl e H⟩
      · split at h
        · rename_i hm0 hc
          obtain ⟨h0, h1, h2⟩ := hc
          have hol : ∃ olds, RelC e es.flatten olds ∧ es.flatten.length = es.length * ti.size ∧ (Builtin.firstCells ti.size es.length (.slice (some ⟨b, o, none⟩) es.length es.length)).run P e.w.drew = .ok olds.toArray e.w.drew := by
            rcases h0 with rfl | rfl
            · obtain ⟨olds, g1, g2⟩ := src_of_mem (P := P) (e := e) (c := es.length) (length_flatten_eq hel) (flatten_memAt hel hm)
              exact ⟨olds, g1, length_flatten_eq hel, g2.2.2 e.w.drew rfl⟩
            · obtain ⟨olds, g1, g2⟩ := src_of_mem (P := P) (e := e) (sz := ti.size) (m := 0) (b := b) (o := o) (c := 0) (cs := []) (by simp) (fun j c hj => by simp at hj)
              exact ⟨olds, g1, by simp, g2.2.2 e.w.drew rfl⟩
          obtain ⟨olds, g1, g2, g3⟩ := hol
          obtain ⟨u, e', hrun, hpost⟩ := grow fz g1 g2 g3 (by omega) h2 h1
          refine ⟨u, e', hrun, ?_⟩
          split at h
          · rename_i hfz
            rw [if_pos hfz] at hpost
            simp only [Option.some.injEq, Prod.mk.injEq] at h
            obtain ⟨rfl, rfl, rfl⟩ := h
            exact hpost
          · rename_i hfz
            rw [if_neg hfz] at hpost
            simp only [Option.some.injEq, Prod.mk.injEq] at h
            obtain ⟨rfl, rfl, rfl⟩ := h
            exact hpost
        · cases h
  · -- an object
    rename_i id off len sz'
    split at h
    · rename_i cs hid
      split at h
      · rename_i hc
        obtain ⟨rfl, hle, hb, h63⟩ := hc
        simp only [Option.some.injEq, Prod.mk.injEq] at h
        obtain ⟨rfl, rfl, rfl⟩ := h
        obtain ⟨hN, ad, cap, hsp, rfl, hlen, hroom⟩ := rep_ms_inv hx
        have hne : id ≠ e.N := by omega
        have hdl : ((cs.drop off).take (len * ti.size)).length = len * ti.size := by simp; omega
        have hmo : MemAt e (e.ρ id).1 ((e.ρ id).2 + off) ((cs.drop off).take (len * ti.size)) := fun j c hj => by
          rw [List.getElem?_take] at hj
          split at hj
          · rw [List.getElem?_drop] at hj
            have := memAt_obj hH hid _ c hj
            rwa [Nat.add_assoc]
          · cases hj
        by_cases hfit : len + m ≤ cap
        · -- in place
          obtain ⟨_, hIn, c, ty0, hg, hbase, hcells⟩ := hH.at_ id _ hid
          rcases hroom with h0 | ⟨rfl, c', t', fz', hg', hrm⟩
          · subst h0
            obtain rfl : len = 0 := by omega
            obtain rfl : m = 0 := by omega
            have hus0 : us = [] := List.eq_nil_of_length_eq_zero (by omega)
            subst hus0
            have hnews0 : news = [] := List.eq_nil_of_length_eq_zero (by omega)
            subst hnews0
            have hob : ORep (e.again (e.ρ id).1 ((e.ρ id).2 + off)) (e.ρ id).1 ((e.ρ id).2 + off) (.blk ((cs.drop off).take (0 * ti.size) ++ [])) :=
              ⟨c, ty0, hg, by simp; omega, fun j a hj => by simp at hj⟩
            refine ⟨_, e.again (e.ρ id).1 ((e.ρ id).2 + off), append_fits (P := P) (w' := e.w) ht hi hv (hfirst e.w rfl) (Nat.le_refl _) (fun a ha => rfl) (fun h => by cases h), ?_, hrep_again hH hid _ hob, rfl, tr_again hH _ hid _⟩
            exact .ms (Nat.lt_succ_self _) (Nat.le_refl _) (.inl rfl)
          · rw [hg] at hg'
            cases hg'
            have hmul : (len + m) * ti.size ≤ cap * ti.size := Nat.mul_le_mul_right _ hfit
            have hone : ∀ u ∈ us, u.oneCell' = true := fun u hu => by
              obtain ⟨i, hi', rfl⟩ := List.getElem_of_mem hu
              have hi2 : i < news.length := by have := hus.1; omega
              exact (hus.2 i news[i] us[i] (by simp [hi2]) (by simp [hi'])).1
            rw [Nat.add_mul] at hmul
            have hst := run_storeCells_at P (e.ρ id).1 ((e.ρ id).2 + off + len * ti.size) ty0 us 0 c e.w hg (by simp; omega) hone
            simp only [Nat.add_zero] at hst
            let c2 := (c.toList.take ((e.ρ id).2 + off + len * ti.size) ++ us ++ c.toList.drop ((e.ρ id).2 + off + len * ti.size + us.length)).toArray
            have hs2 : c2.size = c.size := by
              simp only [c2, List.size_toArray, List.length_append, List.length_take, List.length_drop, Array.length_toList]
              omega
            have x1 : Ext e (e.setRow (e.ρ id).1 c2) := ext_setRow hg hs2 hIn
            -- the object in the written row
            have hcell2 : ∀ (j : Nat) (a : AV), ((cs.drop off).take (len * ti.size) ++ news)[j]? = some a → ∃ u, c2[(e.ρ id).2 + off + j]? = some u ∧ u.oneCell' = true ∧ Rep e a u := fun j a hj => by
              by_cases h1 : j < len * ti.size
              · rw [List.getElem?_append_left (by omega), List.getElem?_take, if_pos h1, List.getElem?_drop] at hj
                obtain ⟨u, h2, h3, h4⟩ := hcells _ a hj
                refine ⟨u, ?_, h3, h4⟩
                simp only [c2, List.getElem?_toArray]
                rw [List.append_assoc, List.getElem?_append_left (by simp; omega), List.getElem?_take, if_pos (by omega)]
                rw [Nat.add_assoc]
                simpa using h2
              · rw [List.getElem?_append_right (by omega), hdl] at hj
                have hjl : j - len * ti.size < us.length := by have := (List.getElem?_eq_some_iff.1 hj).1; have := hus.1; omega
                obtain ⟨h2, h3⟩ := hus.2 _ a us[j - len * ti.size] hj (by simp [hjl])
                refine ⟨us[j - len * ti.size], ?_, h2, h3⟩
                simp only [c2, List.getElem?_toArray]
                have htl : (c.toList.take ((e.ρ id).2 + off + len * ti.size)).length = (e.ρ id).2 + off + len * ti.size := by simp; omega
                rw [List.append_assoc, List.getElem?_append_right (by omega), htl, List.getElem?_append_left (by omega)]
                rw [show (e.ρ id).2 + off + j - ((e.ρ id).2 + off + len * ti.size) = j - len * ti.size by omega]
                simp [hjl]
            have hnl : news.length = m * ti.size := hul
            -- first the row, as the elder object is then given up
            have hob1 : ORep (e.setRow (e.ρ id).1 c2) (e.ρ id).1 (e.ρ id).2 (.blk []) := ⟨c2, ty0, setRow_heap _ _ _ _ _ _ hg, by rw [hs2]; simp; omega, fun j a hj => by simp at hj⟩
            have hH1 := hrep_setRow hH hid hg hs2 hob1
            have ht1 := tr_setRow hH (.blk []) hid hg hs2
            have hid1 : (H.set id (.blk [])) id = some (.blk []) := by simp [AHeap.set]
            have hob2 : ORep ((e.setRow (e.ρ id).1 c2).again (e.ρ id).1 ((e.ρ id).2 + off)) (e.ρ id).1 ((e.ρ id).2 + off) (.blk ((cs.drop off).take (len * ti.size) ++ news)) := by
              refine ⟨c2, ty0, setRow_heap _ _ _ _ _ _ hg, ?_, fun j a hj => ?_⟩
              · rw [hs2, List.length_append, hdl, hnl]; omega
              · obtain ⟨u, h2, h3, h4⟩ := hcell2 j a hj
                exact ⟨u, h2, h3, (h4.ext x1).ext (ext_again _ _ _)⟩
            have hH2 := hrep_again hH1 hid1 _ hob2
            have ht2 := tr_again hH1 (.blk ((cs.drop off).take (len * ti.size) ++ news)) hid1 ((e.ρ id).2 + off)
            have hdd : (H.set id (.blk [])).del id = H.del id := by
              funext i
              simp only [AHeap.set, AHeap.del]
              split <;> rfl
            rw [hdd] at hH2 ht2
            refine ⟨.slice (some ⟨(e.ρ id).1, (e.ρ id).2 + off, none⟩) (len + m) cap, _, append_fits (P := P) (w' := e.w.setRow (e.ρ id).1 c2) ht hi hv (hfirst e.w rfl) hfit (fun a ha => ?_) (fun h => by cases h), ?_, hH2, rfl, ht1.trans ht2⟩
            · cases ha
              rw [addr_add]
              exact hst
            · refine .ms (Nat.lt_succ_self _) hfit (.inr ⟨?_, c2, ty0, (0, 0), ?_, ?_⟩)
              · simp [Env.again, Env.setRow]
              · simp only [Env.again, Env.setRow, if_true]; exact setRow_heap _ _ _ _ _ _ hg
              · simp only [Env.again, Env.setRow, if_true]; rw [hs2]; simpa using hrm
        · -- it grows
          obtain ⟨olds, g1, g2⟩ : ∃ olds, RelC e ((cs.drop off).take (len * ti.size)) olds ∧ (Builtin.firstCells ti.size len (.slice (some ad) len cap)).run P e.w.drew = .ok olds.toArray e.w.drew := by
            rcases hroom with h0 | ⟨rfl, _⟩
            · obtain rfl : len = 0 := by omega
              refine ⟨[], ⟨by simp, fun i a u ha => by simp at ha⟩, ?_⟩
              exact run_firstCells_some (P := P) e.w.drew ti.size 0 ad 0 cap [] (by simp) (fun j u hu => by simp at hu)
            · obtain ⟨olds, k1, k2⟩ := src_of_mem (P := P) (e := e) (c := cap) hdl hmo
              exact ⟨olds, k1, k2.2.2 e.w.drew rfl⟩
          obtain ⟨u, e', hrun, hpost⟩ := grow false g1 hdl g2 (by omega) h63 hb
          rw [if_neg (by simp)] at hpost
          obtain ⟨p1, p2, p3, p4⟩ := hpost
          refine ⟨u, e', hrun, p1, ?_, p3, ?_⟩
          · rw [← del_set hne]; exact hrep_del p2 id
          · rw [← del_set hne]; exact tr_del p4 id
      · cases h
    · cases h
  · cases h

end
end Go.Fw

/- Framework, part 10b: maps. -/
namespace Go.Fw
set_option linter.unusedSimpArgs false
set_option linter.unusedVariables false
open Go
set_option linter.unusedSectionVars false
variable [Globals]

/-- Are two keys one? -/
def keq : Value → Value → Option Bool
  | .int k a, .int k' b => if k = k' then some (a == b) else none
  | .string a, .string b => some (a == b)
  | .bool a, .bool b => some (a == b)
  | _, _ => none

/-- Where a key stands. -/
def afind (k : Value) : List (Value × AV) → Nat → Option (Option Nat)
  | [], _ => some none
  | e :: es, i => match keq k e.1 with
    | some true => some (some i)
    | some false => afind k es (i + 1)
    | none => none

def kindOk (d : TypeDesc) : Value → Bool
  | .int _ _ => match d with | .int _ => true | _ => false
  | .string _ => match d with | .string => true | _ => false
  | .bool _ => match d with | .bool => true | _ => false
  | _ => false

theorem keq_same {d : TypeDesc} {x y : Value} {b : Bool} (hd : kindOk d x = true) (h : keq x y = some b) : Instr.sameNow d x y = some b := by
  unfold keq at h
  split at h
  · cases d <;> simp [kindOk] at hd
    simpa [Instr.sameNow] using h
  · cases d <;> simp [kindOk] at hd
    simpa [Instr.sameNow] using h
  · cases d <;> simp [kindOk] at hd
    simpa [Instr.sameNow] using h
  · cases h

theorem keq_bits {x y : Value} (h : keq x y = some true) (n : Nat) : Instr.sameBits n y x = true := by
  unfold keq at h
  split at h
  · split at h
    · rename_i hk
      subst hk
      simp only [Option.some.injEq, beq_iff_eq] at h
      subst h
      cases n <;> simp [Instr.sameBits]
    · cases h
  · simp only [Option.some.injEq] at h
    obtain rfl := (MapKept.bytes_beq _ _).mp h
    cases n <;> simp [Instr.sameBits, h]
  · simp only [Option.some.injEq, beq_iff_eq] at h
    subst h
    cases n <;> simp [Instr.sameBits]
  · cases h

theorem find_run {d : TypeDesc} {k : Value} (hd : kindOk d k = true) : ∀ (ents : List MapEntry) (es : List (Value × AV)) (i : Nat), ents.map (·.key) = es.map (·.1) →
    (afind k es i = some none → Instr.findNow d k ents i = some none) ∧
    (∀ j, afind k es i = some (some j) → ∃ x, i ≤ j ∧ ents[j - i]? = some x ∧ keq k x.key = some true ∧ Instr.findNow d k ents i = some (some (j, x.val)))
  | [], [], i, _ => by simp [afind, Instr.findNow]
  | [], _ :: _, _, h => by simp at h
  | _ :: _, [], _, h => by simp at h
  | x :: ents, e :: es, i, h => by
    simp only [List.map_cons, List.cons.injEq] at h
    obtain ⟨hk, hr⟩ := h
    obtain ⟨ih1, ih2⟩ := find_run hd ents es (i + 1) hr
    simp only [afind, Instr.findNow]
    cases hq : keq k e.1 with
    | none => simp
    | some b =>
      have hs := keq_same hd hq
      rw [← hk] at hs hq
      rw [hs]
      cases b with
      | true =>
        refine ⟨fun h => by simp at h, fun j hj => ?_⟩
        simp at hj
        subst hj
        exact ⟨x, Nat.le_refl _, by simp, hq, rfl⟩
      | false =>
        refine ⟨fun h => ih1 h, fun j hj => ?_⟩
        obtain ⟨y, h1, h2, h3, h4⟩ := ih2 j hj
        refine ⟨y, by omega, ?_, h3, h4⟩
        rw [show j - i = (j - (i + 1)) + 1 by omega]
        simpa using h2

theorem keq_eq {x y : Value} (h : keq x y = some true) : x = y := by
  unfold keq at h
  split at h
  · split at h
    · rename_i hk
      subst hk
      simp only [Option.some.injEq, beq_iff_eq] at h
      rw [h]
    · cases h
  · simp only [Option.some.injEq] at h
    rw [(MapKept.bytes_beq _ _).mp h]
  · simp only [Option.some.injEq, beq_iff_eq] at h
    rw [h]
  · cases h

theorem keq_self_ne {x : Value} : keq x x ≠ some false := by
  cases x <;> simp [keq]
  exact (MapKept.bytes_beq _ _).mpr rfl
theorem afind_none_ne {k : Value} : ∀ {es : List (Value × AV)} {i : Nat} {ents : List MapEntry}, afind k es i = some none → ents.map (·.key) = es.map (·.1) → ∀ x ∈ ents, x.key ≠ k
  | [], i, ents, _, h, x, hx => by simp at h; subst h; cases hx
  | e :: es, i, [], _, h, x, hx => by cases hx
  | e :: es, i, y :: ents, hf, h, x, hx => by
    simp only [List.map_cons, List.cons.injEq] at h
    simp only [afind] at hf
    cases hq : keq k e.1 with
    | none => rw [hq] at hf; cases hf
    | some b =>
      rw [hq] at hf
      cases b with
      | true => simp at hf
      | false =>
        rcases List.mem_cons.1 hx with rfl | hx
        · intro heq
          rw [← h.1, heq] at hq
          exact keq_self_ne hq
        · exact afind_none_ne hf h.2 x hx

section
variable {P : Program} {e : Env} {H : AHeap}

theorem checkKey_run {t : TypeId} {d : TypeDesc} (ht : P.underlying t = some d) {k : Value} (hd : kindOk d k = true) (b : Bool) (w : World) : (Instr.checkKey b 10000 t k).run P w = .ok () w := by
  have : ∀ n, (Instr.checkKey b (n + 1) t k).run P w = .ok () w := fun n => by
    cases k <;> simp [kindOk] at hd <;> cases d <;> simp at hd <;> simp [Instr.checkKey, run_underlying ht]
  exact this 9999

/-- What a look-up finds. -/
def alook (zero : AV) (H : AHeap) (m k : AV) : Option (AV × Bool) :=
  match m, k with
  | .lit (.map none), .lit _ => some (zero, false)
  | .mm id, .lit kv => match H id with
    | some (.map es) => match afind kv es 0 with
      | some none => some (zero, false)
      | some (some j) => (es[j]?).map fun x => (x.2, true)
      | none => none
    | _ => none
  | _, _ => none

def alookup (zero : AV) (ok : Bool) (H : AHeap) (m k : AV) : Option AV :=
  (alook zero H m k).map fun x => if ok = true then .tup [x.1, .lit (.bool x.2)] else x.1

theorem ents_keys {ents : Array MapEntry} {es : List (Value × AV)} (hs : ents.size = es.length) (hk : ∀ i : Nat, (ents[i]?).map (·.key) = (es[i]?).map (·.1)) : ents.toList.map (·.key) = es.map (·.1) := by
  apply List.ext_getElem?
  intro i
  simpa using hk i

theorem alookup_run (hH : HRep e H) {t kt el : TypeId} {d : TypeDesc} (ht : P.underlying t = some (.map kt el)) (hd : P.underlying kt = some d) {z : Value} (hz : (P.info? el).bind (·.zero) = some z) {zero : AV} (hzr : Rep e zero z)
    {ok : Bool} {m k r : AV} {vm vk : Value} (h : alookup zero ok H m k = some r) (hm : Rep e m vm) (hk : Rep e k vk) (hkd : ∀ v, k = .lit v → kindOk d v = true) :
    ∃ u, (Instr.lookup t vm vk ok).run P e.w = .ok u e.w ∧ Rep e r u := by
  obtain ⟨ti, hti, hzz⟩ := Option.bind_eq_some_iff.1 hz
  have hzero : ∀ w, (zeroValue el).run P w = .ok z w := fun w => by simp [zeroValue, run_typeInfo _ hti, hzz]
  have fin : ∀ (v : Value) (b : Bool) (av : AV), Rep e av v → r = (if ok = true then AV.tup [av, .lit (.bool b)] else av) → Rep e r (if ok then .tuple #[v, .bool b] else v) := fun v b av hv hr => by
    subst hr
    cases ok with
    | false => simpa using hv
    | true =>
      refine .tup (vs := [v, .bool b]) rfl (fun i c u hc hu => ?_)
      match i with
      | 0 => simp at hc hu; subst hc; subst hu; exact hv
      | 1 => simp at hc hu; subst hc; subst hu; exact .lit _
      | i + 2 => simp at hc
  unfold alookup at h
  simp only [Option.map_eq_some_iff] at h
  obtain ⟨⟨av, b⟩, hl, hr⟩ := h
  unfold alook at hl
  split at hl
  · rename_i kv
    cases hl; cases hm
    obtain rfl : kv = vk := by cases hk; rfl
    have hck := checkKey_run (P := P) hd (hkd kv rfl) true e.w
    refine ⟨if ok then .tuple #[z, .bool false] else z, ?_, fin z false zero hzr hr.symm⟩
    simp [Instr.lookup, run_underlying ht, hck, Instr.findKey, run_underlying hd, Instr.findNow, hzero]
  · rename_i id kv
    split at hl
    · rename_i es hid
      obtain ⟨hN, hI, ents, clock, hg, hs, hkeys, hvals, hst⟩ := hH.at_ id _ hid
      cases hm with
      | mm hid' =>
        obtain rfl : kv = vk := by cases hk; rfl
        have hkd' := hkd kv rfl
        have hck := checkKey_run (P := P) hd hkd' ents.isEmpty e.w
        obtain ⟨f1, f2⟩ := find_run hkd' ents.toList es 0 (ents_keys hs hkeys)
        have hget : (getObj (e.ρ id).1).run P e.w = .ok (.map ents clock) e.w := by simp only [getObj, Sem.run, hg]
        split at hl
        · rename_i hf
          cases hl
          refine ⟨if ok then .tuple #[z, .bool false] else z, ?_, fin z false zero hzr hr.symm⟩
          simp [Instr.lookup, run_underlying ht, hget, hck, Instr.findKey, run_underlying hd, f1 hf, hzero]
        · rename_i j hf
          simp only [Option.map_eq_some_iff] at hl
          obtain ⟨⟨kx, ax⟩, hj, hx⟩ := hl
          cases hx
          obtain ⟨x, _, hx, _, hfn⟩ := f2 j hf
          have hv := hvals j kx _ x hj (by simpa using hx)
          refine ⟨if ok then .tuple #[x.val, .bool true] else x.val, ?_, fin x.val true _ hv hr.symm⟩
          simp [Instr.lookup, run_underlying ht, hget, hck, Instr.findKey, run_underlying hd, hfn]
        · cases hl
    · cases hl
  · cases hl

/-- A map of the abstract heap written. -/
def Env.setMap (e : Env) (g : Nat) (o : Obj) : Env := { e with w := { e.w with heap := e.w.heap.setIfInBounds g o } }

theorem setMap_other (e : Env) (g : Nat) (o : Obj) {b : Nat} (h : b ≠ g) : (e.setMap g o).w.heap[b]? = e.w.heap[b]? := by
  simp [Env.setMap, Array.getElem?_setIfInBounds_ne (Ne.symm h)]

theorem setMap_same (e : Env) (g : Nat) (o o' : Obj) (h : e.w.heap[g]? = some o') : (e.setMap g o).w.heap[g]? = some o := by
  have := lt_of_heap h
  simp [Env.setMap, this]

theorem ext_setMap {e : Env} {g : Nat} {ents : Array MapEntry} {clock : Nat} (o : Obj) (hg : e.w.heap[g]? = some (.map ents clock)) (hI : ¬ e.I g) : Ext e (e.setMap g o) where
  I := fun _ h => h
  imm := fun b hb => setMap_other _ _ _ (fun h => hI (h ▸ hb))
  ρ := fun _ _ => rfl
  N := Nat.le_refl _
  shape := fun b d u fz' h => by
    by_cases hb : b = g
    · subst hb; rw [hg] at h; cases h
    · exact ⟨d, fz', (setMap_other _ _ _ hb).trans h, rfl⟩

theorem hrep_setMap (hH : HRep e H) {id : Nat} {ob ob' : AObj} (hid : H id = some ob) {ents : Array MapEntry} {clock : Nat} (o : Obj)
    (hg : e.w.heap[(e.ρ id).1]? = some (.map ents clock)) (hob : ORep (e.setMap (e.ρ id).1 o) (e.ρ id).1 (e.ρ id).2 ob') : HRep (e.setMap (e.ρ id).1 o) (H.set id ob') := by
  have hI := (hH.at_ id ob hid).2.1
  have x := ext_setMap o hg hI
  refine ⟨fun i o' hi => ?_, fun i j o1 o2 hi hj hij => ?_, fun b hb => ?_, hH.gl.ext x⟩
  · simp only [AHeap.set] at hi
    split at hi
    · rename_i heq
      subst heq
      cases hi
      exact ⟨(hH.at_ _ _ hid).1, hI, hob⟩
    · rename_i hne
      obtain ⟨h1, h2, h3⟩ := hH.at_ i o' hi
      exact ⟨h1, h2, h3.ext x (setMap_other _ _ _ (fun heq => hne (hH.inj i id o' ob hi hid heq)))⟩
  · have hx : ∀ {i : Nat} {o : AObj}, (H.set id ob') i = some o → ∃ o, H i = some o := fun {i o} hi => by
      simp only [AHeap.set] at hi
      split at hi
      · rename_i heq; subst heq; exact ⟨_, hid⟩
      · exact ⟨_, hi⟩
    obtain ⟨a, ha⟩ := hx hi
    obtain ⟨b, hb⟩ := hx hj
    exact hH.inj i j a b ha hb hij
  · have := hH.imm b hb
    simpa [Env.setMap] using this

theorem tr_setMap (hH : HRep e H) {id : Nat} {ob : AObj} (ob' : AObj) (hid : H id = some ob) {ents : Array MapEntry} {clock : Nat} (o : Obj)
    (hg : e.w.heap[(e.ρ id).1]? = some (.map ents clock)) : Tr e H (e.setMap (e.ρ id).1 o) (H.set id ob') where
  ext := ext_setMap o hg (hH.at_ id ob hid).2.1
  fr := fun b hb hn => setMap_other _ _ _ (fun heq => hn ⟨id, ob, hid, heq.symm⟩)
  own := fun b ⟨i, o', h1, h2⟩ => by
    simp only [AHeap.set] at h1
    split at h1
    · rename_i heq; subst heq; exact .inl ⟨_, ob, hid, h2⟩
    · exact .inl ⟨i, o', h1, h2⟩
  im := fun b hb => .inl hb
  size := by simp [Env.setMap]
  os := rfl
  tape := rfl
  output := rfl

/-- A store into a map. -/
def amapset (H : AHeap) (m k v : AV) : Option AHeap :=
  match m, k with
  | .mm id, .lit kv => match H id with
    | some (.map es) => match afind kv es 0 with
      | some none => some (H.set id (.map (es ++ [(kv, v)])))
      | some (some j) => some (H.set id (.map (es.set j (kv, v))))
      | none => none
    | _ => none
  | _, _ => none

theorem amapset_run (hH : HRep e H) {t kt el : TypeId} {d : TypeDesc} (ht : P.underlying t = some (.map kt el)) (hd : P.underlying kt = some d)
    {m k v : AV} {vm vk vv : Value} {H' : AHeap} (h : amapset H m k v = some H') (hm : Rep e m vm) (hk : Rep e k vk) (hv : Rep e v vv) (hkd : ∀ v, k = .lit v → kindOk d v = true) :
    ∃ e', (Instr.mapUpdate t vm vk vv).run P e.w = .ok () e'.w ∧ HRep e' H' ∧ e'.N = e.N ∧ Tr e H e' H' := by
  unfold amapset at h
  split at h
  · rename_i id kv
    split at h
    · rename_i es hid
      obtain ⟨hN, hI, ents, clock, hg, hs, hkeys, hvals, hst⟩ := hH.at_ id _ hid
      cases hm with
      | mm hid' =>
        obtain rfl : kv = vk := by cases hk; rfl
        have hkd' := hkd kv rfl
        have hck := checkKey_run (P := P) hd hkd' false e.w
        obtain ⟨f1, f2⟩ := find_run hkd' ents.toList es 0 (ents_keys hs hkeys)
        have hget : (getObj (e.ρ id).1).run P e.w = .ok (.map ents clock) e.w := by simp only [getObj, Sem.run, hg]
        have hset : ∀ o, (setObj (e.ρ id).1 o).run P e.w = .ok () (e.setMap (e.ρ id).1 o).w := fun o => by simp only [setObj, Sem.run, hg]; rfl
        split at h
        · rename_i hf
          cases h
          have hob : ORep (e.setMap (e.ρ id).1 (.map (ents.push { key := kv, val := vv, born := clock }) (clock + 1))) (e.ρ id).1 (e.ρ id).2 (.map (es ++ [(kv, v)])) := by
            have x := ext_setMap (.map (ents.push { key := kv, val := vv, born := clock }) (clock + 1)) hg hI
            refine ⟨_, _, setMap_same _ _ _ _ hg, by simp [hs], fun i => ?_, fun i k a y hi hy => ?_, MapKept.stamped_push hst (afind_none_ne hf (ents_keys hs hkeys))⟩
            · rw [Array.getElem?_push, List.getElem?_append]
              by_cases h1 : i < es.length
              · rw [if_neg (by omega), if_pos h1]; exact hkeys i
              · rw [if_neg h1]
                by_cases h2 : i = es.length
                · subst h2; rw [if_pos hs.symm]; simp
                · rw [if_neg (by omega), Array.getElem?_eq_none (by omega)]
                  rw [List.getElem?_eq_none (by simp; omega)]
                  rfl
            · rw [List.getElem?_append] at hi
              rw [Array.getElem?_push] at hy
              by_cases h1 : i < es.length
              · rw [if_pos h1] at hi
                rw [if_neg (by omega)] at hy
                exact (hvals i k a y hi hy).ext x
              · rw [if_neg h1] at hi
                have h2 : i = es.length := by
                  have := (List.getElem?_eq_some_iff.1 hi).1
                  simp at this; omega
                subst h2
                rw [if_pos hs.symm] at hy
                simp at hi hy
                obtain ⟨rfl, rfl⟩ := hi
                subst hy
                exact hv.ext x
          refine ⟨_, ?_, hrep_setMap hH hid _ hg hob, rfl, tr_setMap hH _ hid _ hg⟩
          simp [Instr.mapUpdate, run_underlying ht, hget, hck, Instr.findKey, run_underlying hd, f1 hf, hset]
        · rename_i j hf
          cases h
          obtain ⟨x, _, hx, hkx, hfn⟩ := f2 j hf
          simp only [Nat.sub_zero, Array.getElem?_toList] at hx
          have hjs : j < ents.size := (Array.getElem?_eq_some_iff.1 hx).1
          have hmod : ents.modify j (fun en => { en with key := kv, val := vv }) = ents.setIfInBounds j { x with key := kv, val := vv } := by
            apply Array.ext_getElem?
            intro i
            rw [Array.getElem?_modify, Array.getElem?_setIfInBounds]
            by_cases hij : j = i
            · subst hij; have hx' := (Array.getElem?_eq_some_iff.1 hx).2; simp [hx', hjs]
            · simp [hij]
          have hob : ORep (e.setMap (e.ρ id).1 (.map (ents.modify j (fun en => { en with key := kv, val := vv })) clock)) (e.ρ id).1 (e.ρ id).2 (.map (es.set j (kv, v))) := by
            have xx := ext_setMap (.map (ents.modify j (fun en => { en with key := kv, val := vv })) clock) hg hI
            refine ⟨_, _, setMap_same _ _ _ _ hg, by simp [hs], fun i => ?_, fun i k a y hi hy => ?_, MapKept.stamped_modify hst j _ (fun _ _ => rfl) (fun y _ hy => by rw [hx] at hy; cases hy; exact keq_eq hkx)⟩
            · rw [hmod, Array.getElem?_setIfInBounds, List.getElem?_set]
              by_cases hij : j = i
              · subst hij; simp [hjs, show j < es.length by omega]
              · simp only [if_neg hij]; exact hkeys i
            · rw [hmod, Array.getElem?_setIfInBounds] at hy
              rw [List.getElem?_set] at hi
              by_cases hij : j = i
              · subst hij
                simp [hjs, show j < es.length by omega] at hi hy
                obtain ⟨rfl, rfl⟩ := hi
                subst hy
                exact hv.ext xx
              · simp only [if_neg hij] at hi hy
                exact (hvals i k a y hi hy).ext xx
          refine ⟨_, ?_, hrep_setMap hH hid _ hg hob, rfl, tr_setMap hH _ hid _ hg⟩
          have hks : (Instr.keyThatStays x.key kv).run P e.w = .ok kv e.w := by simp [Instr.keyThatStays, keq_bits hkx 10000]
          simp [Instr.mapUpdate, run_underlying ht, hget, hck, Instr.findKey, run_underlying hd, hfn, hx, hks, hset]
        · cases h
    · cases h
  · cases h

/-- A key taken out of a map. -/
def amapdel (H : AHeap) (m k : AV) : Option AHeap :=
  match m, k with
  | .mm id, .lit kv => match H id with
    | some (.map es) => match afind kv es 0 with
      | some none => some (H.set id (.map es))
      | some (some j) => some (H.set id (.map (es.eraseIdx j)))
      | none => none
    | _ => none
  | _, _ => none

theorem amapdel_run (hH : HRep e H) {t kt el ty : TypeId} {at2 : Array TypeId} {d : TypeDesc} (ht : P.underlying t = some (.map kt el)) (hd : P.underlying kt = some d) (hat : at2[0]? = some t)
    {m k : AV} {vm vk : Value} {H' : AHeap} (h : amapdel H m k = some H') (hm : Rep e m vm) (hk : Rep e k vk) (hkd : ∀ v, k = .lit v → kindOk d v = true) :
    ∃ e', (Builtin.delete_ at2 ty #[vm, vk]).run P e.w = .ok (.tuple #[]) e'.w ∧ HRep e' H' ∧ e'.N = e.N ∧ Tr e H e' H' := by
  unfold amapdel at h
  split at h
  · rename_i id kv
    split at h
    · rename_i es hid
      obtain ⟨hN, hI, ents, clock, hg, hs, hkeys, hvals, hst⟩ := hH.at_ id _ hid
      cases hm with
      | mm hid' =>
        obtain rfl : kv = vk := by cases hk; rfl
        have hkd' := hkd kv rfl
        have hck := checkKey_run (P := P) hd hkd' ents.isEmpty e.w
        obtain ⟨f1, f2⟩ := find_run hkd' ents.toList es 0 (ents_keys hs hkeys)
        have hget : (getObj (e.ρ id).1).run P e.w = .ok (.map ents clock) e.w := by simp only [getObj, Sem.run, hg]
        have hset : ∀ o, (setObj (e.ρ id).1 o).run P e.w = .ok () (e.setMap (e.ρ id).1 o).w := fun o => by simp only [setObj, Sem.run, hg]; rfl
        split at h
        · rename_i hf
          cases h
          have hob : ORep (e.setMap (e.ρ id).1 (.map ents clock)) (e.ρ id).1 (e.ρ id).2 (.map es) := by
            have x := ext_setMap (.map ents clock) hg hI
            exact ⟨_, _, setMap_same _ _ _ _ hg, hs, hkeys, fun i k a y hi hy => (hvals i k a y hi hy).ext x, hst⟩
          refine ⟨_, ?_, hrep_setMap hH hid _ hg hob, rfl, tr_setMap hH _ hid _ hg⟩
          simp [Builtin.delete_, hat, run_underlying ht, hget, hck, Instr.findKey, run_underlying hd, f1 hf, hset]
        · rename_i j hf
          cases h
          obtain ⟨x, _, hx, hkx, hfn⟩ := f2 j hf
          simp only [Nat.sub_zero, Array.getElem?_toList] at hx
          have hjs : j < ents.size := (Array.getElem?_eq_some_iff.1 hx).1
          have her : (ents.eraseIdxIfInBounds j).toList = ents.toList.eraseIdx j := by simp [Array.eraseIdxIfInBounds, hjs]
          have hob : ORep (e.setMap (e.ρ id).1 (.map (ents.eraseIdxIfInBounds j) clock)) (e.ρ id).1 (e.ρ id).2 (.map (es.eraseIdx j)) := by
            have xx := ext_setMap (.map (ents.eraseIdxIfInBounds j) clock) hg hI
            have hge : ∀ i : Nat, (ents.eraseIdxIfInBounds j)[i]? = if i < j then ents[i]? else ents[i + 1]? := fun i => by
              rw [← Array.getElem?_toList, her, List.getElem?_eraseIdx]
              simp
            refine ⟨_, _, setMap_same _ _ _ _ hg, ?_, fun i => ?_, fun i k a y hi hy => ?_, MapKept.stamped_erase hst j⟩
            · rw [← Array.length_toList, her, List.length_eraseIdx, List.length_eraseIdx]
              simp [hs]
            · rw [hge, List.getElem?_eraseIdx]
              split
              · exact hkeys i
              · exact hkeys (i + 1)
            · rw [hge] at hy
              rw [List.getElem?_eraseIdx] at hi
              split at hy
              · rename_i hij; rw [if_pos hij] at hi; exact (hvals i k a y hi hy).ext xx
              · rename_i hij; rw [if_neg hij] at hi; exact (hvals (i + 1) k a y hi hy).ext xx
          refine ⟨_, ?_, hrep_setMap hH hid _ hg hob, rfl, tr_setMap hH _ hid _ hg⟩
          simp [Builtin.delete_, hat, run_underlying ht, hget, hck, Instr.findKey, run_underlying hd, hfn, hset]
        · cases h
    · cases h
  · cases h

theorem mkmap_run (hH : HRep e H) (t : TypeId) : ∃ e', (Instr.makeMap t none).run P e.w = .ok (.map (some e.w.heap.size)) e'.w ∧ Rep e' (.mm e.N) (.map (some e.w.heap.size)) ∧ HRep e' (H.set e.N (.map [])) ∧ e'.N = e.N + 1 ∧ Tr e H e' (H.set e.N (.map [])) := by
  refine ⟨e.allocO (.map #[] 0), rfl, ?_, hrep_allocO hH _ ⟨#[], 0, heap_alloc_new _ _, rfl, fun i => by simp, (fun i k a x hi => by simp at hi), MapKept.stamped_empty 0⟩, rfl, tr_allocO hH _ _⟩
  have := Rep.mm (e := e.allocO (.map #[] 0)) (id := e.N) (Nat.lt_succ_self _)
  simpa [Env.allocO] using this

end
end Go.Fw

/- Framework, part 10c: copy; the greater and the lesser of two numbers. -/
namespace Go.Fw
set_option linter.unusedSimpArgs false
set_option linter.unusedVariables false
open Go
set_option linter.unusedSectionVars false
variable [Globals]

def alenS : AV → Option Nat
  | .sl _ _ es => some es.length
  | .ms _ _ len _ => some len
  | _ => none

/-- The first cells of a slice. -/
def asrcN (H : AHeap) (sz n : Nat) : AV → Option (List AV)
  | .sl _ sz' es => if (sz' = sz ∨ es = []) ∧ n ≤ es.length then some (es.take n).flatten else none
  | .ms id off len sz' => match H id with
    | some (.blk cs) => if sz' = sz ∧ off + len * sz ≤ cs.length ∧ n ≤ len then some ((cs.drop off).take (n * sz)) else none
    | _ => none
  | _ => none

def acopy (H : AHeap) (sz : Nat) (x y : AV) : Option (Nat × AHeap) :=
  match alenS y, x with
  | some m, .ms id off len sz' => match asrcN H sz (min m len) y, H id with
    | some news, some (.blk cs) => if sz' = sz ∧ off + len * sz ≤ cs.length then some (min m len, H.set id (.blk (splice off news cs))) else none
    | _, _ => none
  | _, _ => none

section
variable {P : Program} {e : Env} {H : AHeap}

theorem alenS_run {y : AV} {v : Value} {m : Nat} (h : alenS y = some m) (hy : Rep e y v) (w : World) : (Builtin.lenOf v).run P w = .ok m w := by
  unfold alenS at h
  split at h
  · cases h
    rcases rep_sl_inv hy with ⟨_, rfl, rfl⟩ | ⟨_, b, o, cap, rfl, _⟩ | ⟨_, rfl, _, rfl⟩ <;> simp [Builtin.lenOf]
  · cases h
    obtain ⟨_, ad, cap, _, rfl, _⟩ := rep_ms_inv hy
    simp [Builtin.lenOf]
  · cases h

theorem asrcN_run (hH : HRep e H) {sz n : Nat} {x : AV} {v : Value} {cs : List AV} (h : asrcN H sz n x = some cs) (hx : Rep e x v) :
    ∃ us, RelC e cs us ∧ cs.length = n * sz ∧ us.length = n * sz ∧ (Builtin.firstCells sz n v).run P e.w = .ok us.toArray e.w := by
  unfold asrcN at h
  split at h
  · rename_i k sz' es
    split at h
    · rename_i hc
      obtain ⟨hsz, hn⟩ := hc
      cases h
      rcases rep_sl_inv hx with ⟨rfl, rfl, rfl⟩ | ⟨hk, b, o, cap, rfl, hcap, hex, hI, hel, hm⟩ | ⟨hk, rfl, ad, rfl⟩
      rotate_right
      · obtain rfl : n = 0 := by simpa using hn
        exact ⟨[], ⟨rfl, fun i a u ha => by simp at ha⟩, by simp, by simp, run_firstCells_some (P := P) e.w sz 0 ad 0 0 [] (by simp) (fun j u hu => by simp at hu)⟩
      · obtain rfl : n = 0 := by simpa using hn
        exact ⟨[], ⟨rfl, fun i a u ha => by simp at ha⟩, by simp, by simp, run_firstCells_none (P := P) e.w sz 0 0 0⟩
      · rcases hsz with rfl | rfl
        · have hel' : ∀ x ∈ es.take n, x.length = sz' := fun x hx => hel x (List.mem_of_mem_take hx)
          have hl := length_flatten_eq hel'
          rw [List.length_take, Nat.min_eq_left hn] at hl
          obtain ⟨us, h1, h2, h3, h4⟩ := src_of_mem (P := P) (e := e) (c := cap) (m := n) hl (flatten_memAt hel' (fun i x hi => hm i x (by
            rw [List.getElem?_take] at hi
            split at hi
            · exact hi
            · cases hi)))
          exact ⟨us, h1, hl, h3, h4 e.w rfl⟩
        · obtain rfl : n = 0 := by simpa using hn
          obtain ⟨us, h1, h2, h3, h4⟩ := src_of_mem (P := P) (e := e) (sz := sz) (m := 0) (b := b) (o := o) (c := cap) (cs := []) (by simp) (fun j c hj => by simp at hj)
          exact ⟨us, h1, by simp, h3, h4 e.w rfl⟩
    · cases h
  · rename_i id off len sz'
    split at h
    · rename_i cs' hid
      split at h
      · rename_i hc
        obtain ⟨rfl, hle, hn⟩ := hc
        cases h
        obtain ⟨_, ad, cap, hsp, rfl, hlen, hroom⟩ := rep_ms_inv hx
        have hmul : n * sz' ≤ len * sz' := Nat.mul_le_mul_right _ hn
        have hl : ((cs'.drop off).take (n * sz')).length = n * sz' := by simp; omega
        rcases hroom with h0 | ⟨rfl, _⟩
        · have h00 : n = 0 := by omega
          subst h00
          obtain ⟨b, o, s⟩ := ad
          refine ⟨[], ⟨by simp, fun i a u ha => by simp at ha⟩, by simp, by simp, ?_⟩
          exact run_firstCells_some (P := P) e.w sz' 0 ⟨b, o, s⟩ len cap [] (by simp) (fun j u hu => by simp at hu)
        · obtain ⟨us, h1, h2, h3, h4⟩ := src_of_mem (P := P) (e := e) (m := n) (b := (e.ρ id).1) (o := (e.ρ id).2 + off) (c := cap) hl (fun j c hj => by
            rw [List.getElem?_take] at hj
            split at hj
            · rw [List.getElem?_drop] at hj
              have := memAt_obj hH hid _ c hj
              rwa [Nat.add_assoc]
            · cases hj)
          exact ⟨us, h1, hl, h3, h4 e.w rfl⟩
      · cases h
    · cases h
  · cases h

theorem set_self {id : Nat} {o : AObj} (h : H id = some o) : H.set id o = H := by
  funext i
  simp only [AHeap.set]
  split
  · rename_i hi; rw [hi, h]
  · rfl

theorem acopy_run (hH : HRep e H) {t t' ty el : TypeId} {sz : Nat} (ht : P.underlying t = some (.slice el)) (hs : (P.info? el).map (·.size) = some sz) {x y : AV} {n : Nat} {H' : AHeap} {vx vy : Value}
    (h : acopy H sz x y = some (n, H')) (hx : Rep e x vx) (hy : Rep e y vy) :
    ∃ e', (Builtin.copy_ #[t, t'] ty #[vx, vy]).run P e.w = .ok (.int .i64 n) e'.w ∧ HRep e' H' ∧ e'.N = e.N ∧ Tr e H e' H' := by
  obtain ⟨ti, hti, hsz⟩ := size_info hs
  unfold acopy at h
  split at h
  · rename_i m id off len sz' hm
    split at h
    · rename_i news cs hnews hid
      split at h
      · rename_i hc
        obtain ⟨rfl, hle⟩ := hc
        simp only [Option.some.injEq, Prod.mk.injEq] at h
        obtain ⟨rfl, rfl⟩ := h
        obtain ⟨us, h1, h2, h3, h4⟩ := asrcN_run (P := P) hH hnews hy
        obtain ⟨_, ad, cap, hsp, rfl, hlen, hroom⟩ := rep_ms_inv hx
        have hlo := alenS_run (P := P) hm hy e.w
        have hnl : min m len * sz' ≤ len * sz' := Nat.mul_le_mul_right _ (Nat.min_le_right _ _)
        have run : ∀ w', (storeCells ad us).run P e.w = .ok () w' → (Builtin.copy_ #[t, t'] ty #[.slice (some ad) len cap, vy]).run P e.w = .ok (.int .i64 (min m len : Nat)) w' := fun w' hw => by
          simp only [Nat.min_def] at h4 ⊢
          simp [Builtin.copy_, run_underlying ht, hlo, sizeOf, run_typeInfo _ hti, hsz, Nat.min_def, h4, hw, goInt]
        rcases hroom with h0 | ⟨rfl, _⟩
        · have hl0 : len = 0 := by omega
          subst hl0
          have hn0 : news = [] := List.eq_nil_of_length_eq_zero (by rw [Nat.min_zero, Nat.zero_mul] at h2; exact h2)
          have hu0 : us = [] := List.eq_nil_of_length_eq_zero (by rw [Nat.min_zero, Nat.zero_mul] at h3; exact h3)
          subst hn0; subst hu0
          have hsp : splice off [] cs = cs := by simp [splice]
          rw [hsp, set_self hid]
          exact ⟨e, run e.w rfl, hH, rfl, .refl e H⟩
        · obtain ⟨hN, hI, c, t0, hg, hle0, hm'⟩ := hH.at_ id _ hid
          have hone : ∀ u ∈ us, u.oneCell' = true := fun u hu => by
            obtain ⟨i, hi, rfl⟩ := List.getElem_of_mem hu
            have hi' : i < news.length := by omega
            exact (h1.2 i news[i] us[i] (by simp [hi']) (by simp [hi])).1
          obtain ⟨k1, k2⟩ := orep_store (us := us) hH hid hg (by omega) (off := off) (vcs := news) (by omega) h1.2
          refine ⟨_, run _ ?_, hrep_setRow hH hid hg k1 k2, rfl, tr_setRow hH _ hid hg k1⟩
          have hst := run_storeCells_at P (e.ρ id).1 ((e.ρ id).2 + off) t0 us 0 c e.w hg (by simp; omega) hone
          simp only [Nat.add_zero] at hst
          simpa [Env.setRow] using hst
      · cases h
    · cases h
  · cases h

def amm (mx : Bool) (x y : AV) : Option AV :=
  match x, y with
  | .lit (.int k a), .lit (.int _ b) => some (.lit (.int k (bif mx then (if b > a then b else a) else (if b < a then b else a))))
  | _, _ => none

theorem amm_run {mx : Bool} {x y r : AV} {vx vy : Value} (h : amm mx x y = some r) (hx : Rep e x vx) (hy : Rep e y vy) (ts : Array TypeId) (ty : TypeId) :
    ∃ u, (bif mx then Builtin.max_ ts ty #[vx, vy] else Builtin.min_ ts ty #[vx, vy]).run P e.w = .ok u e.w ∧ Rep e r u := by
  unfold amm at h
  split at h
  · cases h; cases hx; cases hy
    cases mx
    · exact ⟨_, by simp [Builtin.min_, Builtin.min2], .lit _⟩
    · exact ⟨_, by simp [Builtin.max_, Builtin.max2], .lit _⟩
  · cases h

/-- Bytes, out of cells. -/
def abytes : List AV → Option (List UInt8)
  | [] => some []
  | .lit (.int .u8 n) :: r => (abytes r).map fun l => UInt8.ofNat n.toNat :: l
  | _ :: _ => none

/-- A slice of bytes as a text. -/
def abstr (H : AHeap) (x : AV) : Option AV := (asrc H 1 x).bind fun p => (abytes p.1).map fun l => .lit (.string ⟨l.toArray⟩)

theorem abytes_rel {cs : List AV} {us : List Value} {l : List UInt8} (h : abytes cs = some l) (hr : RelC e cs us) : ∃ ns : List Int, us = ns.map (Value.int .u8) ∧ l = ns.map fun n => UInt8.ofNat n.toNat := by
  obtain ⟨hl, hr⟩ := hr
  induction cs generalizing us l with
  | nil =>
    simp [abytes] at h
    subst h
    have : us = [] := List.eq_nil_of_length_eq_zero (by simpa using hl)
    exact ⟨[], by simp [this], rfl⟩
  | cons c cs ih =>
    cases us with
    | nil => simp at hl
    | cons u us =>
      unfold abytes at h
      split at h
      · rename_i heq; cases heq
      · rename_i n r heq
        cases heq
        simp only [Option.map_eq_some_iff] at h
        obtain ⟨l', h1, rfl⟩ := h
        obtain ⟨ns, h2, h3⟩ := ih h1 (by simpa using hl) (fun i a v ha hv => hr (i + 1) a v (by simpa using ha) (by simpa using hv))
        have h0 := (hr 0 _ u rfl rfl).2
        cases h0
        exact ⟨n :: ns, by simp [h2], by simp [h3]⟩
      · cases h

theorem bytes_fold (w : World) : ∀ (ns : List Int) (s : ByteArray), (forIn (m := Sem) (ns.map (Value.int .u8)) s (fun c r => match c with | .int .u8 n => pure (ForInStep.yield (r.push (UInt8.ofNat n.toNat))) | _ => do stuck "bytesToString: byte expected"; pure (ForInStep.yield r))).run P w =
    .ok (ns.foldl (fun r n => r.push (UInt8.ofNat n.toNat)) s) w
  | [], s => by simp
  | n :: ns, s => by
    have ih := bytes_fold w ns (s.push (UInt8.ofNat n.toNat))
    simp only [List.map_cons, List.forIn_cons, List.foldl_cons]
    simp

theorem bytes_foldl : ∀ (ns : List Int) (s : ByteArray), ns.foldl (fun r n => r.push (UInt8.ofNat n.toNat)) s = ⟨(s.data.toList ++ ns.map fun n => UInt8.ofNat n.toNat).toArray⟩
  | [], s => by simp
  | n :: ns, s => by
    rw [List.foldl_cons, bytes_foldl]
    simp [ByteArray.push]

theorem abstr_run (hH : HRep e H) {x r : AV} {v : Value} (h : abstr H x = some r) (hx : Rep e x v) : ∃ u, (Conv.bytesToString v).run P e.w = .ok u e.w ∧ Rep e r u := by
  unfold abstr at h
  obtain ⟨⟨cs, m⟩, h1, h2⟩ := Option.bind_eq_some_iff.1 h
  simp only [Option.map_eq_some_iff] at h2
  obtain ⟨l, h3, rfl⟩ := h2
  obtain ⟨us, hr, hl, ⟨a, c, rfl⟩, hul, hf⟩ := asrc_run (P := P) hH h1 hx
  obtain ⟨ns, rfl, rfl⟩ := abytes_rel h3 hr
  have hrun := hf e.w rfl
  cases a with
  | none =>
    have hm : ns = [] := by
      simp only [Builtin.firstCells] at hrun
      have : (#[] : Array Value) = (ns.map (Value.int .u8)).toArray := by
        have h5 : (pure #[] : Sem (Array Value)).run P e.w = .ok #[] e.w := by simp
        rw [h5] at hrun
        injection hrun
      have h6 := congrArg Array.toList this
      simpa using h6.symm
    subst hm
    exact ⟨.string .empty, by simp [Conv.bytesToString], .lit _⟩
  | some a =>
    simp only [Builtin.firstCells, Nat.mul_one] at hrun
    refine ⟨.string (ns.foldl (fun r n => r.push (UInt8.ofNat n.toNat)) .empty), ?_, ?_⟩
    · have hb := bytes_fold (P := P) e.w ns .empty
      simp only [Conv.bytesToString, Sem.run_bind, hrun, Result.andThen_ok, List.forIn_toArray]
      refine Eq.trans (congrArg (fun q => Result.andThen q fun a w' => Sem.run P (pure (Value.string a)) w') (Eq.trans ?_ hb)) (by simp)
      congr 2
    · rw [bytes_foldl]
      simp
      exact .lit _

theorem amm3_run {mx : Bool} {x y z r : AV} {vx vy vz : Value} (h : ((amm mx x y).bind fun r => amm mx r z) = some r) (hx : Rep e x vx) (hy : Rep e y vy) (hz : Rep e z vz) (ts : Array TypeId) (ty : TypeId) :
    ∃ u, (bif mx then Builtin.max_ ts ty #[vx, vy, vz] else Builtin.min_ ts ty #[vx, vy, vz]).run P e.w = .ok u e.w ∧ Rep e r u := by
  obtain ⟨q, h1, h2⟩ := Option.bind_eq_some_iff.1 h
  unfold amm at h1 h2
  split at h1
  · cases h1; cases hx; cases hy
    split at h2
    · rename_i heq
      cases heq
      cases h2; cases hz
      cases mx
      · exact ⟨_, by simp [Builtin.min_, Builtin.min2], .lit _⟩
      · exact ⟨_, by simp [Builtin.max_, Builtin.max2], .lit _⟩
    · cases h2
  · cases h1

end
end Go.Fw

/- Framework, part 10c: arrays; cells made zero. -/
namespace Go.Fw
set_option linter.unusedSimpArgs false
set_option linter.unusedVariables false
open Go
set_option linter.unusedSectionVars false
variable [Globals]

/-- An element of an array. -/
def aindexA (ag : Bool) (sz len : Nat) (x i : AV) : Option AV :=
  match x, i with
  | .agg cs, .lit (.int _ i) => if 0 ≤ i ∧ i < (len : Int) then apart ag sz (i.toNat * sz) cs else none
  | _, _ => none

/-- The address of an element of an array. -/
def aindexP (sz len : Nat) (x i : AV) : Option AV :=
  match x, i with
  | .ip cs off, .lit (.int _ i) => if 0 ≤ i ∧ i < (len : Int) then some (.ip cs (off + i.toNat * sz)) else none
  | .mp id off, .lit (.int _ i) => if 0 ≤ i ∧ i < (len : Int) then some (.mp id (off + i.toNat * sz)) else none
  | _, _ => none

/-- A slice of an array. -/
def asliceA (H : AHeap) (sz n : Nat) (x : AV) (lo hi : Option AV) : Option AV :=
  match bnd 0 lo, bnd n hi with
  | some l, some h =>
    if 0 ≤ l ∧ l ≤ h ∧ h ≤ (n : Int) then
      match x with
      | .ip cs off => if off + n * sz ≤ cs.length then some (.sl .any sz (chunks sz (h.toNat - l.toNat) (cs.drop (off + l.toNat * sz)))) else none
      | .mp id off => match H id with
        | some (.blk cs) => if off + n * sz ≤ cs.length then some (.ms id (off + l.toNat * sz) (h.toNat - l.toNat) sz) else none
        | _ => none
      | _ => none
    else none
  | _, _ => none

/-- 'clear' of a slice. -/
def aclear (H : AHeap) (sz : Nat) (zs : List AV) (x : AV) : Option AHeap :=
  match x with
  | .sl _ _ [] => some H
  | .ms id off len sz' => match H id with
    | some (.blk cs) => if sz' = sz ∧ zs.length = sz ∧ off + len * sz ≤ cs.length then some (H.set id (.blk (splice off (List.replicate len zs).flatten cs))) else none
    | _ => none
  | _ => none

section
variable {P : Program} {e : Env} {H : AHeap}

theorem aindexA_run {t el : TypeId} {len : Nat} {d : TypeDesc} (ht : P.underlying t = some (.array len el)) (hd : P.underlying el = some d) {sz : Nat} (hs : (P.info? el).map (·.size) = some sz) {x i r : AV} {v w : Value}
    (h : aindexA (isAggB P el) sz len x i = some r) (hx : Rep e x v) (hi : Rep e i w) : ∃ u, (Instr.index t v w).run P e.w = .ok u e.w ∧ Rep e r u := by
  obtain ⟨ti, hti, hsz⟩ := size_info hs
  unfold aindexA at h
  split at h
  · rename_i cs ki ii
    split at h
    · rename_i hc
      obtain ⟨h0, h1⟩ := hc
      cases hi
      obtain ⟨vs, rfl, u, h2, h3⟩ := apart_run hd hs h hx
      exact ⟨u, by simp [Instr.index, asIntOf, run_underlying ht, h0, h1, sizeOf, typeInfo, hti, hsz, h2], h3⟩
    · cases h
  · cases h

theorem aindexP_run {t el : TypeId} {len : Nat} (ht : P.underlying t = some (.array len el)) {sz : Nat} (hs : (P.info? el).map (·.size) = some sz) {x i r : AV} {v w : Value}
    (h : aindexP sz len x i = some r) (hx : Rep e x v) (hi : Rep e i w) : ∃ u, (Instr.indexAt t v w).run P e.w = .ok u e.w ∧ Rep e r u := by
  obtain ⟨ti, hti, hsz⟩ := size_info hs
  unfold aindexP at h
  split at h
  · rename_i cs off ki ii
    split at h
    · rename_i hc
      obtain ⟨h0, h1⟩ := hc
      cases h
      cases hi
      obtain ⟨b, o, rfl, hm, hI⟩ := memAt_ip hx
      refine ⟨.pointer (some ⟨b, o + (off + ii.toNat * sz), none⟩), ?_, rep_ip_intro hI hm⟩
      simp [Instr.indexAt, Instr.sureAddr, asIntOf, run_underlying ht, h0, h1, sizeOf, typeInfo, hti, hsz, addr_add, Nat.add_assoc]
    · cases h
  · rename_i id off ki ii
    split at h
    · rename_i hc
      obtain ⟨h0, h1⟩ := hc
      cases h
      cases hi
      cases hx with
      | mp hid =>
        refine ⟨.pointer (some ⟨(e.ρ id).1, (e.ρ id).2 + (off + ii.toNat * sz), none⟩), ?_, .mp hid⟩
        simp [Instr.indexAt, Instr.sureAddr, asIntOf, run_underlying ht, h0, h1, sizeOf, typeInfo, hti, hsz, addr_add, Nat.add_assoc]
    · cases h
  · cases h

theorem asliceA_run (hH : HRep e H) {t el : TypeId} {n : Nat} (ht : P.underlying t = some (.array n el)) {sz : Nat} (hs : (P.info? el).map (·.size) = some sz) {x r : AV} {lo hi : Option AV} {v : Value} {vlo vhi : Option Value}
    (h : asliceA H sz n x lo hi = some r) (hx : Rep e x v) (hlo : RepO e lo vlo) (hhi : RepO e hi vhi) :
    ∃ u, (Instr.sliceAt t v vlo vhi none).run P e.w = .ok u e.w ∧ Rep e r u := by
  obtain ⟨ti, hti, hsz⟩ := size_info hs
  unfold asliceA at h
  split at h
  · rename_i l hh hl hhb
    split at h
    · rename_i hc
      obtain ⟨h0, h1, h2⟩ := hc
      have hb := sliceBounds_run (P := P) (rb_of hl hlo) (rb_of hhb hhi) h0 h1 h2 (Nat.le_refl _) e.w false
      split at h
      · rename_i cs off
        split at h
        · rename_i hlen
          cases h
          obtain ⟨b, o, rfl, hm, hI⟩ := memAt_ip hx
          refine ⟨.slice (some (if n = l.toNat then ⟨b, o + off, none⟩ else ⟨b, o + off + l.toNat * sz, none⟩)) (hh.toNat - l.toNat) (n - l.toNat), ?_, ?_⟩
          · simp [Instr.sliceAt, Instr.sureAddr, run_underlying ht, hb, sizeOf, typeInfo, hti, hsz, addr_add]
          · by_cases hn : n = l.toNat
            · rw [if_pos hn, show hh.toNat - l.toNat = 0 by omega, show n - l.toNat = 0 by omega]
              exact .slE (by simp)
            · rw [if_neg hn]
              have hcap : (hh.toNat - l.toNat) * sz ≤ (n - l.toNat) * sz := Nat.mul_le_mul_right _ (by omega)
              have hadd : l.toNat * sz + (n - l.toNat) * sz = n * sz := by rw [← Nat.add_mul]; congr 1; omega
              refine rep_chunks (by simp) hI (by omega) (by simp) (by simp; omega) (fun j d hj => ?_)
              rw [List.getElem?_drop] at hj
              have := hm _ d hj
              rwa [← Nat.add_assoc, ← Nat.add_assoc] at this
        · cases h
      · rename_i id off
        split at h
        · rename_i _ cs hid
          split at h
          · rename_i hlen
            cases h
            cases hx with
            | mp hidN =>
              obtain ⟨_, _, c, ty, h4, h5, _⟩ := hH.at_ id _ hid
              refine ⟨.slice (some (if n = l.toNat then ⟨(e.ρ id).1, (e.ρ id).2 + off, none⟩ else ⟨(e.ρ id).1, (e.ρ id).2 + off + l.toNat * sz, none⟩)) (hh.toNat - l.toNat) (n - l.toNat), ?_, ?_⟩
              · simp [Instr.sliceAt, Instr.sureAddr, run_underlying ht, hb, sizeOf, typeInfo, hti, hsz, addr_add]
              · by_cases hn : n = l.toNat
                · rw [if_pos hn]
                  exact .ms hidN (by omega) (.inl (by omega))
                · rw [if_neg hn]
                  have hadd : l.toNat * sz + (n - l.toNat) * sz = n * sz := by rw [← Nat.add_mul]; congr 1; omega
                  exact .ms hidN (by omega) (.inr ⟨by rw [Nat.add_assoc], c, ty, _, h4, by omega⟩)
          · cases h
        · cases h
      · cases h
    · cases h
  · cases h

theorem zeroCells_made (z : Array Value) (n : Nat) : Builtin.zeroCells z n = madeCells z (n * z.size) := rfl

theorem aclear_run (hH : HRep e H) {t ty el : TypeId} (ht : P.underlying t = some (.slice el)) {ti : TypeInfo} (hi : P.info? el = some ti) {z : Value} (hz : ti.zero = some z) {zs : List AV} (hzr : RelC e zs z.cells.toList)
    {x : AV} {H' : AHeap} {vx : Value} (h : aclear H ti.size zs x = some H') (hx : Rep e x vx) :
    ∃ e', (Builtin.clear_ #[t] ty #[vx]).run P e.w = .ok (.tuple #[]) e'.w ∧ HRep e' H' ∧ e'.N = e.N ∧ Tr e H e' H' := by
  have hzv : (zeroValue el).run P e.w = .ok z e.w := by simp [zeroValue, run_typeInfo _ hi, hz]
  unfold aclear at h
  split at h
  · cases h
    rcases rep_sl_inv hx with ⟨_, _, rfl⟩ | ⟨_, b, o, cap, rfl, _⟩ | ⟨_, _, ad, rfl⟩ <;> exact ⟨e, by simp [Builtin.clear_, run_underlying ht], hH, rfl, .refl e H⟩
  · rename_i id off len sz'
    split at h
    · rename_i cs hid
      split at h
      · rename_i hc
        obtain ⟨rfl, hzl, hle⟩ := hc
        cases h
        obtain ⟨_, ad, cap, hsp, rfl, hlen, hroom⟩ := rep_ms_inv hx
        by_cases hl0 : len = 0
        · subst hl0
          have hsp : splice off [] cs = cs := by simp [splice]
          simp only [List.replicate_zero, List.flatten_nil]
          rw [hsp, set_self hid]
          exact ⟨e, by simp [Builtin.clear_, run_underlying ht], hH, rfl, .refl e H⟩
        · rcases hroom with h0 | ⟨rfl, _⟩
          · omega
          · obtain ⟨hN, hI, c, t0, hg, hle0, hm'⟩ := hH.at_ id _ hid
            have hrel := relC_made hzr len len (Nat.le_refl _)
            have hzc : z.cells.size = zs.length := by have := hzr.1; simpa using this
            have hus : (madeCells z.cells (len * zs.length)).toList.take (len * zs.length) = (Builtin.zeroCells z.cells len).toList := by
              rw [zeroCells_made, hzc]
              exact List.take_of_length_le (by simp [size_madeCells])
            rw [hus] at hrel
            have hone : ∀ u ∈ (Builtin.zeroCells z.cells len).toList, u.oneCell' = true := fun u hu => by
              obtain ⟨i, hi, rfl⟩ := List.getElem_of_mem hu
              have hi' : i < ((List.replicate len zs).flatten).length := by rw [← hrel.1]; exact hi
              exact (hrel.2 i _ _ (List.getElem?_eq_getElem hi') (by simp at hi; simp [hi])).1
            have hfl : ((List.replicate len zs).flatten).length = len * ti.size := by simp [hzl]
            obtain ⟨k1, k2⟩ := orep_store (us := (Builtin.zeroCells z.cells len).toList) hH hid hg hrel.1 (off := off) (vcs := (List.replicate len zs).flatten) (by omega) hrel.2
            refine ⟨_, ?_, hrep_setRow hH hid hg k1 k2, rfl, tr_setRow hH _ hid hg k1⟩
            have hul : (Builtin.zeroCells z.cells len).toList.length = len * ti.size := by rw [hrel.1, hfl]
            have hst := run_storeCells_at P (e.ρ id).1 ((e.ρ id).2 + off) t0 (Builtin.zeroCells z.cells len).toList 0 c e.w hg (by omega) hone
            simp only [Nat.add_zero] at hst
            obtain ⟨m, rfl⟩ : ∃ m, len = m + 1 := ⟨len - 1, by omega⟩
            simp only [Env.setRow] at hst ⊢
            simp [Builtin.clear_, run_underlying ht, hzv] at hst ⊢
            rw [hst]
            rfl
      · cases h
    · cases h
  · cases h

end
end Go.Fw

/- Framework, part 11: the operations, compiled; what they come to over abstract values. -/
namespace Go.Fw
set_option linter.unusedSimpArgs false
set_option linter.unusedVariables false
open Go
set_option linter.unusedSectionVars false
variable [Globals]

inductive AOp where
  | val (x : AX)
  | pick (c a b : AX)
  | nilck (x : AX)
  | bin (op : BinOp) (et : ET) (x y : AX)
  | un (op : UnOp) (x : AX)
  | conv (k : IntKind) (x : AX)
  | extract (x : AX) (i : Nat)
  | field (off sz : Nat) (ag : Bool) (x : AX)
  | fieldAddr (off : Nat) (x : AX)
  | indexAddr (sz : Nat) (x i : AX)
  | indexStr (x i : AX)
  | slice (sz : Nat) (x : AX) (lo hi mx : Option AX)
  | sliceStr (x : AX) (lo hi : Option AX)
  | len (k : Nat) (x : AX)
  | mkifc (t : TypeId) (x : AX)
  | mkfn (f : Fn) (first capt : List AX)
  | build (zs : List AV) (parts : List (Nat × Nat × AX))
  | bslice (mu : Bool) (sz n : Nat) (zs : List AV) (parts : List (Nat × Nat × AX))
  | load (ag : Bool) (sz : Nat) (x : AX)
  | store (sz : Nat) (x v : AX)
  | alloc (cs : List AV)
  | box (fz : Bool) (v : AX)
  | mkslice (sz bytes : Nat) (zs : List AV) (l c : AX)
  | append (fz : Bool) (sz bytes : Nat) (x y : AX)
  | sappend (sz bytes : Nat) (b x y : AX)
  | kappend (sz bytes : Nat) (x y : AX)
  | fappend (sz bytes : Nat) (x y : AX)
  | kalloc (cs : List AV)
  | mkmap
  | lookup (kd : Nat) (zero : AV) (ok : Bool) (m k : AX)
  | mapset (kd : Nat) (m k v : AX)
  | delete (kd : Nat) (m k : AX)
  | lenm (x : AX)
  | copy (sz : Nat) (x y : AX)
  | mm2 (mx : Bool) (x y : AX)
  | mm3 (mx : Bool) (x y z : AX)
  | bstr (x : AX)
  | iload (ag : Bool) (sz : Nat) (x : AX)
  | call (f : AX) (args : List AX)
  | pcall (f : AX) (args : List AX)
  | kcall (f : AX) (args : List AX)
  | indexA (ag : Bool) (sz len : Nat) (x i : AX)
  | indexP (sz len : Nat) (x i : AX)
  | sliceA (sz n : Nat) (x : AX) (lo hi : Option AX)
  | eqS (ne : Bool) (l : List (Nat × Nat)) (x y : AX)
  | clearS (sz : Nat) (zs : List AV) (x : AX)
  | bad
  deriving Inhabited

/-- What is told of a function beside its code: the temporaries of literal slices that are written later, of appends whose answers are not, of calls that leave the abstract heap alone. -/
structure Ann where
  mu : List Nat := []
  fz : List Nat := []
  pc : List Nat := []
  kc : List Nat := []
  bz : List Nat := []
  il : List Nat := []
  sp : List (Nat × Nat) := []
  ka : List Nat := []
  fa : List Nat := []

def inAnn (l : List Nat) : Option Nat → Bool
  | some d => l.contains d
  | none => false

def szOf (P : Program) (t : TypeId) : Option Nat := (P.info? t).map (·.size)

def zeroOf (P : Program) (t : TypeId) : Option (List AV) := (P.info? t).bind fun i => i.zero.bind fun z => if z.cells.toList.all Value.oneCell' = true then some (z.cells.toList.map cAV1) else none

def strSlice (x : AV) (lo hi : Option AV) : Option AV :=
  match x with
  | .lit (.string s) =>
    match bnd 0 lo, bnd s.size hi with
    | some l, some h => if 0 ≤ l ∧ l ≤ h ∧ h ≤ (s.size : Int) then some (.lit (.string (s.extract l.toNat h.toNat))) else none
    | _, _ => none
  | _ => none

/-- 'len': of a text, a slice, a map. -/
def alen (k : Nat) : AV → Option Int
  | .lit (.string s) => if k = 0 then some (s.size : Int) else none
  | .sl _ _ es => if k = 1 then some (es.length : Int) else none
  | .ms _ _ len _ => if k = 1 then some (len : Int) else none
  | .lit (.map none) => if k = 2 then some 0 else none
  | _ => none

def anil : AV → Option AV
  | .ip cs off => some (.ip cs off)
  | .mp id off => some (.mp id off)
  | .lit (.pointer (some a)) => some (.lit (.pointer (some a)))
  | _ => none

def aun (op : UnOp) : AV → Option AV
  | .lit (.int k n) => match op with
    | .neg => some (.lit (.int k (k.wrap (0 - n))))
    | _ => none
  | .lit (.bool b) => match op with
    | .not => some (.lit (.bool (!b)))
    | _ => none
  | _ => none

def aidxs (x i : AV) : Option AV :=
  match x, i with
  | .lit (.string s), .lit (.int _ i) => if 0 ≤ i then (s[i.toNat]?).map fun b => .lit (.int .u8 b.toNat) else none
  | _, _ => none

/-- Key types. -/
def kcode : TypeDesc → Option Nat
  | .int _ => some 0
  | .string => some 1
  | .bool => some 2
  | _ => none

def akind (n : Nat) : AV → Bool
  | .lit (.int _ _) => n == 0
  | .lit (.string _) => n == 1
  | .lit (.bool _) => n == 2
  | _ => false

theorem kind_of {d : TypeDesc} {n : Nat} (h : kcode d = some n) {k : AV} (hk : akind n k = true) : ∀ v, k = .lit v → kindOk d v = true := fun v hv => by
  subst hv
  cases d <;> simp [kcode] at h <;> subst h <;> cases v <;> simp [akind] at hk <;> rfl

/-- '==' of structs of numbers, texts and truths: where each field lies, and its kind. -/
def aeqs : List (Nat × Nat) → List AV → List AV → Option Bool
  | [], _, _ => some true
  | (off, k) :: r, cs, ds => match cs[off]?, ds[off]? with
    | some (.lit a), some (.lit b) => if akind k (.lit a) = true then (match keq a b with
      | some true => aeqs r cs ds
      | some false => some false
      | none => none) else none
    | _, _ => none

def eqsV (l : List (Nat × Nat)) : AV → AV → Option Bool
  | .agg cs, .agg ds => aeqs l cs ds
  | _, _ => none

def eqField (P : Program) (f : Field) : Option (Nat × Nat) := if f.name ≠ "_" then ((P.underlying f.type).bind kcode).map fun k => (f.offset, k) else none

def eqSpec (P : Program) (t : TypeId) : Option (List (Nat × Nat)) := match P.underlying t with
  | some (.struct fs) => if P.stoodInHeld t = false ∧ P.eqGuardType P.depth t = false then fs.toList.mapM (eqField P) else none
  | _ => none

def eqNe : BinOp → Option Bool
  | .eql => some false
  | .neq => some true
  | _ => none

/-- An append that leaves a box alone. -/
def spareOk (N : Nat) : AV → AV → Bool
  | .mp id _, .ms id' _ _ _ => decide (id ≠ id') && decide (id < N)
  | .mp id _, _ => decide (id < N)
  | .ip _ _, _ => true
  | _, _ => false

/-- An append that leaves all as it was. -/
def keepOk (H : AHeap) (N : Nat) : AV → Bool
  | .sl _ _ _ => (H N).isNone
  | _ => false

def spOf (l : List (Nat × Nat)) : Option Nat → Option Nat
  | some d => (l.find? fun x => x.1 == d).map (·.2)
  | none => none

def alenm (H : AHeap) : AV → Option Int
  | .lit (.map none) => some 0
  | .mm id => match H id with
    | some (.map es) => some (es.length : Int)
    | _ => none
  | _ => none

/-- An append to a row that nobody writes, whose answer nobody writes: it only reads. -/
def afap (sz bytes : Nat) (H : AHeap) (x y : AV) : Option AV := match x with
  | .sl k z es => (aappend true sz bytes H 0 (.sl k z es) y).map (·.1)
  | _ => none
theorem afap_ok {sz bytes : Nat} {H : AHeap} {N : Nat} {x y v : AV} (h : afap sz bytes H x y = some v) : aappend true sz bytes H N x y = some (v, H, N) := by
  unfold afap at h
  split at h
  · rename_i k z es
    cases hs : asrc H sz y with
    | none => simp only [aappend, hs] at h; cases h
    | some q =>
      obtain ⟨news, m⟩ := q
      cases k with
      | nil =>
        cases es with
        | nil =>
          simp only [aappend, hs, if_true] at h ⊢
          split at h
          · rename_i hm; rw [if_pos hm]; simp only [Option.map_some, Option.some.injEq] at h; subst h; rfl
          · rename_i hm; rw [if_neg hm]
            split at h
            · rename_i hc; rw [if_pos hc]; simp only [Option.map_some, Option.some.injEq] at h; subst h; rfl
            · cases h
        | cons e es => simp only [aappend, hs] at h; cases h
      | exact =>
        simp only [aappend, hs, if_true] at h ⊢
        split at h
        · rename_i hm; rw [if_pos hm]; simp only [Option.map_some, Option.some.injEq] at h; subst h; rfl
        · rename_i hm; rw [if_neg hm]
          split at h
          · rename_i hc; rw [if_pos hc]; simp only [Option.map_some, Option.some.injEq] at h; subst h; rfl
          · cases h
      | any => simp only [aappend, hs] at h; cases h
  · cases h

def aop (o : AOp) (s : St) : Option (AV × AHeap × Nat) :=
  let p (v : Option AV) : Option (AV × AHeap × Nat) := v.map fun v => (v, s.H, s.N)
  match o with
  | .val x => some (s.ev x, s.H, s.N)
  | .pick c a b => match s.ev c with
    | .lit (.bool t) => some (bif t then s.ev a else s.ev b, s.H, s.N)
    | _ => none
  | .nilck x => p (anil (s.ev x))
  | .bin op et x y => p (abin op et (s.ev x) (s.ev y))
  | .un op x => p (aun op (s.ev x))
  | .conv k x => match s.ev x with
    | .lit (.int _ n) => some (.lit (.int k (k.wrap n)), s.H, s.N)
    | _ => none
  | .extract x i => match s.ev x with
    | .tup cs => p cs[i]?
    | _ => none
  | .field off sz ag x => match s.ev x with
    | .agg cs => p (apart ag sz off cs)
    | _ => none
  | .fieldAddr off x => p (afield off (s.ev x))
  | .indexAddr sz x i => p (aindex sz (s.ev x) (s.ev i))
  | .indexStr x i => p (aidxs (s.ev x) (s.ev i))
  | .slice sz x lo hi mx => p (aslice sz (s.ev x) (lo.map s.ev) (hi.map s.ev) (mx.map s.ev))
  | .sliceStr x lo hi => p (strSlice (s.ev x) (lo.map s.ev) (hi.map s.ev))
  | .len k x => p ((alen k (s.ev x)).map fun n => .lit (.int .i64 n))
  | .mkifc t x => some (.ifc t (s.ev x), s.H, s.N)
  | .mkfn f first capt => some (.fn f (first.map s.ev) (capt.map s.ev), s.H, s.N)
  | .build zs parts => p ((afill (parts.map fun x => (x.1, x.2.1, s.ev x.2.2)) zs).map .agg)
  | .bslice mu sz n zs parts =>
    match afill (parts.map fun x => (x.1, x.2.1, s.ev x.2.2)) zs with
    | some cs => if mu = true then some (.ms s.N 0 n sz, s.H.set s.N (.blk cs), s.N + 1) else some (.sl .exact sz (chunks sz n cs), s.H, s.N)
    | none => none
  | .load ag sz x => p (aload s.H ag sz (s.ev x))
  | .store sz x v => (astore s.H sz (s.ev x) (s.ev v)).map fun H => (.lit undef, H, s.N)
  | .alloc cs => some (.mp s.N 0, s.H.set s.N (.blk cs), s.N + 1)
  | .kalloc cs => if (s.H s.N).isNone = true then some (.mp s.N 0, s.H.set s.N (.blk cs), s.N + 1) else none
  | .box fz v => (s.ev v).cells.map fun cs => if fz = true then (.ip cs 0, s.H, s.N) else (.mp s.N 0, s.H.set s.N (.blk cs), s.N + 1)
  | .mkslice sz bytes zs l c => (amake sz bytes zs (s.ev l) (s.ev c)).map fun x => (.ms s.N 0 x.1 sz, s.H.set s.N (.blk ((List.replicate x.1 zs).flatten)), s.N + 1)
  | .append fz sz bytes x y => aappend fz sz bytes s.H s.N (s.ev x) (s.ev y)
  | .sappend sz bytes b x y => if spareOk s.N (s.ev b) (s.ev x) = true then aappend false sz bytes s.H s.N (s.ev x) (s.ev y) else none
  | .fappend sz bytes x y => p (afap sz bytes s.H (s.ev x) (s.ev y))
  | .kappend sz bytes x y => if keepOk s.H s.N (s.ev x) = true then aappend false sz bytes s.H s.N (s.ev x) (s.ev y) else none
  | .mkmap => some (.mm s.N, s.H.set s.N (.map []), s.N + 1)
  | .lookup kd zero ok m k => if akind kd (s.ev k) = true then p (alookup zero ok s.H (s.ev m) (s.ev k)) else none
  | .mapset kd m k v => if akind kd (s.ev k) = true then (amapset s.H (s.ev m) (s.ev k) (s.ev v)).map fun H => (.lit undef, H, s.N) else none
  | .delete kd m k => if akind kd (s.ev k) = true then (amapdel s.H (s.ev m) (s.ev k)).map fun H => (.tup [], H, s.N) else none
  | .copy sz x y => (acopy s.H sz (s.ev x) (s.ev y)).map fun r => (.lit (.int .i64 r.1), r.2, s.N)
  | .mm2 mx x y => p (amm mx (s.ev x) (s.ev y))
  | .mm3 mx x y z => p ((amm mx (s.ev x) (s.ev y)).bind fun r => amm mx r (s.ev z))
  | .iload ag sz x => p (aload (fun _ => none) ag sz (s.ev x))
  | .bstr x => p (abstr s.H (s.ev x))
  | .lenm x => p ((alenm s.H (s.ev x)).map fun n => .lit (.int .i64 n))
  | .indexA ag sz len x i => p (aindexA ag sz len (s.ev x) (s.ev i))
  | .indexP sz len x i => p (aindexP sz len (s.ev x) (s.ev i))
  | .sliceA sz n x lo hi => p (asliceA s.H sz n (s.ev x) (lo.map s.ev) (hi.map s.ev))
  | .eqS ne l x y => p ((eqsV l (s.ev x) (s.ev y)).map fun b => .lit (.bool (xor ne b)))
  | .clearS sz zs x => (aclear s.H sz zs (s.ev x)).map fun H => (.tup [], H, s.N)
  | _ => none

/-- The kind of a map's keys. -/
def kdOf (P : Program) (t : TypeId) : Option Nat := match P.underlying t with
  | some (.map kt _) => (P.underlying kt).bind kcode
  | _ => none

/-- What stands for a key that is not there. -/
def mzero (P : Program) (t : TypeId) : Option AV := match P.underlying t with
  | some (.map _ el) => ((P.info? el).bind (·.zero)).map cAV
  | _ => none

/-- Operations, compiled. -/
def cop (P : Program) (An : Ann) (o : Oper) : Option AOp :=
  match o.op with
  | .move x => some (.val (cX x))
  | .assign x => some (.val (cX x))
  | .pick c a b => some (.pick (cX c) (cX a) (cX b))
  | .nilCheck x => some (.nilck (cX x))
  | .binOp op t x y _ => match eqNe op, eqSpec P t with
    | some ne, some l => some (.eqS ne l (cX x) (cX y))
    | _, _ => some (.bin op (etOf P t) (cX x) (cX y))
  | .unOp op _ x => some (.un op (cX x))
  | .convert s d x => match P.underlying s, P.underlying d with
    | some (.int _), some (.int k) => some (.conv k (cX x))
    | some (.slice el), some .string => match P.underlying el with
      | some (.int .u8) => some (.bstr (cX x))
      | _ => none
    | _, _ => none
  | .extract x i => some (.extract (cX x) i)
  | .field t x f => match P.underlying t with
    | some (.struct fs) => match fs[f]? with
      | some fl => match szOf P fl.type, P.underlying fl.type with
        | some sz, some _ => some (.field fl.offset sz (isAggB P fl.type) (cX x))
        | _, _ => none
      | none => none
    | _ => none
  | .fieldAddr t x f => match P.underlying t with
    | some (.struct fs) => match fs[f]? with
      | some fl => match szOf P fl.type with
        | some (_ + 1) => some (.fieldAddr fl.offset (cX x))
        | _ => none
      | none => none
    | _ => none
  | .indexAddr t x i => match P.underlying t with
    | some (.slice el) => (szOf P el).map fun sz => .indexAddr sz (cX x) (cX i)
    | some (.array len el) => (szOf P el).map fun sz => .indexP sz len (cX x) (cX i)
    | _ => none
  | .index t x i => match P.underlying t with
    | some .string => some (.indexStr (cX x) (cX i))
    | some (.array len el) => match szOf P el, P.underlying el with
      | some sz, some _ => some (.indexA (isAggB P el) sz len (cX x) (cX i))
      | _, _ => none
    | _ => none
  | .slice t x lo hi mx => match P.underlying t, mx with
    | some (.slice el), _ => (szOf P el).map fun sz => .slice sz (cX x) (lo.map cX) (hi.map cX) (mx.map cX)
    | some .string, none => some (.sliceStr (cX x) (lo.map cX) (hi.map cX))
    | some (.array n el), none => (szOf P el).map fun sz => .sliceA sz n (cX x) (lo.map cX) (hi.map cX)
    | _, _ => none
  | .makeInterface t x => if P.concrete t = true then some (.mkifc t (cX x)) else none
  | .makeFunc f first capt => some (.mkfn f (first.toList.map cX) (capt.toList.map cX))
  | .build t parts => match P.underlying t with
    | some (.struct fs) => match P.info? t with
      | some ti => match ti.zero, fs.toList.mapM (fun f => (P.info? f.type).map fun i => (f.offset, i.size)) with
        | some z, some places => if z.cells.toList.all Value.oneCell' = true then (parts.toList.mapM fun x => (places[x.1]?).map fun y => (y.1, y.2, cX x.2)).map fun ps => .build (z.cells.toList.map cAV1) ps else none
        | _, _ => none
      | none => none
    | _ => none
  | .buildSlice t len parts => match P.underlying t with
    | some (.slice el) => match P.info? el with
      | some ti => match ti.zero with
        | some z =>
          let zs := if len * ti.size = 0 then [] else zrow z (len * ti.size)
          if len * ti.size ≤ 2 ^ 24 ∧ zs.all Value.oneCell' = true then
            some (.bslice (inAnn An.mu o.dst) ti.size len (zs.map cAV1) (parts.toList.map fun x => (x.1 * ti.size, ti.size, cX x.2))) else none
        | none => none
      | none => none
    | _ => none
  | .load t a => match szOf P t, P.underlying t with
    | some sz, some _ => some (if inAnn An.il o.dst = true then .iload (isAggB P t) sz (cX a) else .load (isAggB P t) sz (cX a))
    | _, _ => none
  | .store t a v => (szOf P t).map fun sz => .store sz (cX a) (cX v)
  | .alloc t => match (P.info? t).bind (·.zero) with
    | some z => ((cAV z).cells).map fun cs => if inAnn An.ka o.dst = true then .kalloc cs else .alloc cs
    | none => none
  | .box _ v => some (.box (inAnn An.bz o.dst) (cX v))
  | .makeSlice t l c => match P.underlying t with
    | some (.slice el) => match P.info? el with
      | some ti => match ti.zero with
        | some z => if z.cells.toList.all Value.oneCell' = true then some (.mkslice ti.size ti.bytes (z.cells.toList.map cAV1) (cX l) (cX c)) else none
        | none => none
      | none => none
    | _ => none
  | .call { callee := .value f, args, .. } => some (if inAnn An.pc o.dst = true then .pcall (cX f) (args.toList.map cX) else if inAnn An.kc o.dst = true then .kcall (cX f) (args.toList.map cX) else .call (cX f) (args.toList.map cX))
  | .call { callee := .builtin .len, args, argTypes } => match args.toList, argTypes.toList with
    | [x], [t] => match P.underlying t with
      | some .string => some (.len 0 (cX x))
      | some (.slice _) => some (.len 1 (cX x))
      | some (.map _ _) => some (.lenm (cX x))
      | _ => none
    | _, _ => none
  | .call { callee := .builtin .append, args, argTypes } => match args.toList, argTypes.toList with
    | [x, y], [t, t'] => if t = t' then (match P.underlying t with
      | some (.slice el) => match P.info? el with
        | some ti => match ti.zero with
          | some z => if z.cells.size = ti.size then some (match spOf An.sp o.dst with | some b => .sappend ti.size ti.bytes (.tmp b) (cX x) (cX y) | none => if inAnn An.ka o.dst = true then .kappend ti.size ti.bytes (cX x) (cX y) else if inAnn An.fa o.dst = true then .fappend ti.size ti.bytes (cX x) (cX y) else .append (inAnn An.fz o.dst) ti.size ti.bytes (cX x) (cX y)) else none
          | none => none
        | none => none
      | _ => none) else none
    | _, _ => none
  | .makeMap t none => some .mkmap
  | .lookup t m k ok => match kdOf P t, mzero P t with
    | some kd, some z => some (.lookup kd z ok (cX m) (cX k))
    | _, _ => none
  | .mapUpdate t m k v => (kdOf P t).map fun kd => .mapset kd (cX m) (cX k) (cX v)
  | .insert t m k v => (kdOf P t).map fun kd => .mapset kd (cX m) (cX k) (cX v)
  | .call { callee := .builtin .delete, args, argTypes } => match args.toList, argTypes[0]? with
    | [m, k], some t => (kdOf P t).map fun kd => .delete kd (cX m) (cX k)
    | _, _ => none
  | .panic _ => some .bad
  | .call { callee := .builtin .copy, args, argTypes } => match args.toList, argTypes.toList with
    | [x, y], [t, _] => match P.underlying t with
      | some (.slice el) => (szOf P el).map fun sz => .copy sz (cX x) (cX y)
      | _ => none
    | _, _ => none
  | .call { callee := .builtin .max, args, .. } => match args.toList with
    | [x, y] => some (.mm2 true (cX x) (cX y))
    | [x, y, z] => some (.mm3 true (cX x) (cX y) (cX z))
    | _ => none
  | .call { callee := .builtin .min, args, .. } => match args.toList with
    | [x, y] => some (.mm2 false (cX x) (cX y))
    | [x, y, z] => some (.mm3 false (cX x) (cX y) (cX z))
    | _ => none
  | .call { callee := .builtin .clear, args, argTypes } => match args.toList, argTypes.toList with
    | [x], [t] => match P.underlying t with
      | some (.slice el) => match P.info? el with
        | some ti => match ti.zero with
          | some z => if z.cells.toList.all Value.oneCell' = true then some (.clearS ti.size (z.cells.toList.map cAV1) (cX x)) else none
          | none => none
        | none => none
      | _ => none
    | _, _ => none
  | _ => none

end Go.Fw

/- Framework, part 12: the compiled operations are the model's. -/
namespace Go.Fw
set_option linter.unusedSimpArgs false
set_option linter.unusedVariables false
open Go
set_option linter.unusedSectionVars false
variable [Globals]

section
variable {P : Program} {o : Oper} {a : Act} {e : Env} {n : Nat} {s : St}

theorem OpRes.ofP {v : AV} {H' : AHeap} {N' : Nat} {r : Option AV} (g : Gam e n s a) (h : r.map (fun v => (v, s.H, s.N)) = some (v, H', N'))
    (hr : ∀ v, r = some v → ∃ u, (execOp a.eval o).run P e.w = .ok (.value u) e.w ∧ Rep e v u) : OpRes P o a e s.H v H' N' := by
  simp only [Option.map_eq_some_iff, Prod.mk.injEq] at h
  obtain ⟨v', h1, rfl, rfl, rfl⟩ := h
  obtain ⟨u, h2, h3⟩ := hr v' h1
  have := OpRes.pure (H := s.H) g.H h2 h3
  rwa [g.N] at this

theorem anil_run {x r : AV} {v : Value} (h : anil x = some r) (hx : Rep e x v) : r = x ∧ ∃ ad, v = .pointer (some ad) := by
  unfold anil at h
  split at h <;> cases h <;> cases hx <;> exact ⟨rfl, _, rfl⟩

theorem aun_run {op : UnOp} {x r : AV} {v : Value} (h : aun op x = some r) (hx : Rep e x v) : ∃ u, (Op.unary op v).run P e.w = .ok u e.w ∧ Rep e r u := by
  unfold aun at h
  split at h
  · cases hx
    split at h
    · cases h; exact ⟨_, by simp [Op.unary, Op.intArith], .lit _⟩
    · cases h
  · cases hx
    split at h
    · cases h; exact ⟨_, by simp [Op.unary], .lit _⟩
    · cases h
  · cases h

theorem alen_run {t : TypeId} {k : Nat} (ht : (k = 0 ∧ P.underlying t = some .string) ∨ (k = 1 ∧ ∃ el, P.underlying t = some (.slice el)) ∨ (k = 2 ∧ ∃ ky el, P.underlying t = some (.map ky el))) {ty : TypeId} {x r : AV} {v : Value}
    (h : (alen k x).map (fun n => AV.lit (.int .i64 n)) = some r) (hx : Rep e x v) : ∃ u, (Builtin.len_ #[t] ty #[v]).run P e.w = .ok u e.w ∧ Rep e r u := by
  simp only [Option.map_eq_some_iff] at h
  obtain ⟨m, h1, rfl⟩ := h
  unfold alen at h1
  split at h1
  · split at h1
    · rename_i hk; subst hk
      cases h1; cases hx
      rcases ht with ⟨_, hu⟩ | ⟨h, _⟩ | ⟨h, _⟩
      · exact ⟨_, by simp [Builtin.len_, run_underlying hu, goInt], .lit _⟩
      · cases h
      · cases h
    · cases h1
  · split at h1
    · rename_i hk; subst hk
      cases h1
      rcases ht with ⟨h, _⟩ | ⟨_, el, hu⟩ | ⟨h, _⟩
      · cases h
      · rcases rep_sl_inv hx with ⟨rfl, rfl, rfl⟩ | ⟨_, b, o', cap, rfl, _⟩ | ⟨_, rfl, _, rfl⟩
        rotate_right
        · exact ⟨_, by simp [Builtin.len_, run_underlying hu, goInt], .lit _⟩
        · exact ⟨_, by simp [Builtin.len_, run_underlying hu, goInt], .lit _⟩
        · exact ⟨_, by simp [Builtin.len_, run_underlying hu, goInt], .lit _⟩
      · cases h
    · cases h1
  · split at h1
    · rename_i hk; subst hk
      cases h1
      rcases ht with ⟨h, _⟩ | ⟨_, el, hu⟩ | ⟨h, _⟩
      · cases h
      · obtain ⟨_, ad, cap, hsp, rfl, _⟩ := rep_ms_inv hx
        exact ⟨_, by simp [Builtin.len_, run_underlying hu, goInt], .lit _⟩
      · cases h
    · cases h1
  · split at h1
    · rename_i hk; subst hk
      cases h1; cases hx
      rcases ht with ⟨h, _⟩ | ⟨h, _⟩ | ⟨_, ky, el, hu⟩
      · cases h
      · cases h
      · exact ⟨_, by simp [Builtin.len_, run_underlying hu, goInt], .lit _⟩
    · cases h1
  · cases h1

theorem aidxs_run {t : TypeId} (ht : P.underlying t = some .string) {x i r : AV} {v w : Value} (h : aidxs x i = some r) (hx : Rep e x v) (hi : Rep e i w) :
    ∃ u, (Instr.index t v w).run P e.w = .ok u e.w ∧ Rep e r u := by
  unfold aidxs at h
  split at h
  · cases hx; cases hi
    split at h
    · rename_i h0
      simp only [Option.map_eq_some_iff] at h
      obtain ⟨b, hb, rfl⟩ := h
      exact ⟨_, by simp [Instr.index, asIntOf, run_underlying ht, h0, hb], .lit _⟩
    · cases h
  · cases h

theorem strSlice_run {t : TypeId} (ht : P.underlying t = some .string) {x r : AV} {lo hi : Option AV} {v : Value} {vlo vhi : Option Value}
    (h : strSlice x lo hi = some r) (hx : Rep e x v) (hlo : RepO e lo vlo) (hhi : RepO e hi vhi) : ∃ u, (Instr.sliceAt t v vlo vhi none).run P e.w = .ok u e.w ∧ Rep e r u := by
  unfold strSlice at h
  split at h
  · cases hx
    split at h
    · rename_i l hh hl hhb
      split at h
      · rename_i hc
        obtain ⟨h0, h1, h2⟩ := hc
        cases h
        have hb := sliceBounds_run (P := P) (rb_of hl hlo) (rb_of hhb hhi) h0 h1 h2 (Nat.le_refl _) e.w false
        exact ⟨_, by simp [Instr.sliceAt, Instr.slice, run_underlying ht, hb], .lit _⟩
      · cases h
    · cases h
  · cases h

theorem Gam.evO {x : Option Operand} (g : Gam e n s a) : RepO e ((x.map cX).map s.ev) (x.map a.eval) := by
  cases x with
  | none => exact .none
  | some x => exact .some (g.ev x)

theorem Gam.evs (g : Gam e n s a) (l : List Operand) : ∀ (i : Nat) (c : AV) (v : Value), ((l.map cX).map s.ev)[i]? = some c → (l.map a.eval)[i]? = some v → Rep e c v := fun i c v hc hv => by
  simp only [List.map_map, List.getElem?_map, Option.map_eq_some_iff] at hc hv
  obtain ⟨x, hx, rfl⟩ := hc
  obtain ⟨y, hy, rfl⟩ := hv
  rw [hx] at hy
  cases hy
  exact g.ev x

theorem relC_cAV {z : Value} {cs : List AV} (h : (cAV z).cells = some cs) (e : Env) : RelC e cs z.cells.toList := by
  obtain ⟨h1, h2⟩ := cells_list h (rep_cAV e z)
  exact ⟨h1, h2⟩

theorem relC_zero {z : Value} (h : z.cells.toList.all Value.oneCell' = true) (e : Env) : RelC e (z.cells.toList.map cAV1) z.cells.toList := relC_const e _ (fun u hu => List.all_eq_true.1 h u hu)

theorem mapM_get {α β : Type} {f : α → Option β} : ∀ {l : List α} {r : List β}, l.mapM f = some r → r.length = l.length ∧ ∀ (i : Nat) (x : α) (y : β), l[i]? = some x → r[i]? = some y → f x = some y
  | [], r, h => by simp at h; subst h; simp
  | x :: l, r, h => by
    simp only [List.mapM_cons, Option.bind_eq_bind, Option.pure_def, Option.bind_eq_some_iff, Option.some.injEq] at h
    obtain ⟨y, h1, r', h2, rfl⟩ := h
    obtain ⟨h3, h4⟩ := mapM_get h2
    refine ⟨by simp [h3], fun i a b ha hb => ?_⟩
    cases i with
    | zero => simp at ha hb; subst ha; subst hb; exact h1
    | succ i => exact h4 i a b (by simpa using ha) (by simpa using hb)

theorem kdOf_eq {t : TypeId} {kd : Nat} (h : kdOf P t = some kd) : ∃ kt el d, P.underlying t = some (.map kt el) ∧ P.underlying kt = some d ∧ kcode d = some kd := by
  unfold kdOf at h
  split at h
  · rename_i kt el hu
    obtain ⟨d, h1, h2⟩ := Option.bind_eq_some_iff.1 h
    exact ⟨kt, el, d, hu, h1, h2⟩
  · cases h

theorem mzero_eq {t kt el : TypeId} (hu : P.underlying t = some (.map kt el)) {z : AV} (h : mzero P t = some z) : ∃ v, (P.info? el).bind (·.zero) = some v ∧ z = cAV v := by
  unfold mzero at h
  rw [hu] at h
  simp only [Option.map_eq_some_iff] at h
  obtain ⟨v, h1, rfl⟩ := h
  exact ⟨v, h1, rfl⟩

theorem alenm_run {H : AHeap} {t ky el : TypeId} (hH : HRep e H) (hu : P.underlying t = some (.map ky el)) {ty : TypeId} {x r : AV} {v : Value}
    (h : (alenm H x).map (fun n => AV.lit (.int .i64 n)) = some r) (hx : Rep e x v) : ∃ u, (Builtin.len_ #[t] ty #[v]).run P e.w = .ok u e.w ∧ Rep e r u := by
  simp only [Option.map_eq_some_iff] at h
  obtain ⟨m, h1, rfl⟩ := h
  unfold alenm at h1
  split at h1
  · cases h1; cases hx
    exact ⟨_, by simp [Builtin.len_, run_underlying hu, goInt], .lit _⟩
  · rename_i id
    split at h1
    · rename_i es hid
      cases h1
      cases hx
      obtain ⟨hN, hI, ents, clock, hg, hs, hkeys, hvals, hst⟩ := hH.at_ id _ hid
      have hget : (getObj (e.ρ id).1).run P e.w = .ok (.map ents clock) e.w := by simp only [getObj, Sem.run, hg]
      exact ⟨.int .i64 es.length, by simp [Builtin.len_, run_underlying hu, goInt, hget, hs], .lit _⟩
    · cases h1
  · cases h1

theorem equalIn_keq {t : TypeId} {d : TypeDesc} (hd : P.underlying t = some d) {k : Nat} (hk : kcode d = some k) {a b : Value} (ha : akind k (.lit a) = true) {r : Bool} (h : keq a b = some r) (n : Nat) (w : World) :
    (Op.equalIn (n + 1) t a b).run P w = .ok r w := by
  have hko := kind_of hk ha a rfl
  unfold keq at h
  split at h
  · split at h
    · rename_i hkk
      subst hkk
      cases h
      cases d <;> simp [kindOk] at hko
      exact run_equalIn_int _ _ _ _ _ _ _ hd
    · cases h
  · cases h
    cases d <;> simp [kindOk] at hko
    rw [beq_toListBytes]
    exact run_equalIn_string _ _ _ _ _ hd
  · cases h
    cases d <;> simp [kindOk] at hko
    exact run_equalIn_bool' _ _ _ _ _ hd
  · cases h

theorem isAgg_plain {t : TypeId} {d : TypeDesc} (hd : P.underlying t = some d) {k : Nat} (hk : kcode d = some k) : isAggB P t = false := by
  unfold isAggB
  rw [hd]
  cases d <;> simp [kcode] at hk <;> rfl

theorem part_plain {t : TypeId} {d : TypeDesc} (hd : P.underlying t = some d) {k : Nat} (hk : kcode d = some k) {vs : Array Value} {off : Nat} {v : Value} (hv : vs[off]? = some v) (w : World) : (part t vs off).run P w = .ok v w := by
  have h0 := run_isAgg hd w
  rw [isAgg_plain hd hk] at h0
  simp [part, h0, hv]

theorem eqFields_run : ∀ (fs : List Field) (l : List (Nat × Nat)) {cs ds : List AV} {xs ys : List Value} {r : Bool}, fs.mapM (eqField P) = some l → aeqs l cs ds = some r →
    Rep e (.agg cs) (.agg xs.toArray) → Rep e (.agg ds) (.agg ys.toArray) → (Op.eqFields 9999 xs.toArray ys.toArray fs).run P e.w = .ok r e.w
  | [], l, cs, ds, xs, ys, r, hl, h, _, _ => by
    simp at hl; subst hl
    simp only [aeqs, Option.some.injEq] at h
    subst h
    simp [Op.eqFields]
  | f :: fs, l, cs, ds, xs, ys, r, hl, h, hx, hy => by
    simp only [List.mapM_cons, Option.bind_eq_bind, Option.pure_def, Option.bind_eq_some_iff, Option.some.injEq] at hl
    obtain ⟨⟨off, k⟩, h1, l', h2, rfl⟩ := hl
    unfold eqField at h1
    split at h1
    · rename_i hname
      simp only [Option.map_eq_some_iff, Prod.mk.injEq] at h1
      obtain ⟨k', hk, rfl, rfl⟩ := h1
      obtain ⟨d, hd, hk⟩ := Option.bind_eq_some_iff.1 hk
      simp only [aeqs] at h
      split at h
      · rename_i a b ha hb
        split at h
        · rename_i hak
          have ga : ∃ v, xs[f.offset]? = some v ∧ v = a := by
            cases hx with
            | agg hl _ hr =>
              rename_i vs
              obtain ⟨v, hv⟩ := rep_agg_get hl ha
              refine ⟨v, by simpa using hv, ?_⟩
              have := hr _ _ _ ha hv
              cases this; rfl
          have gb : ∃ v, ys[f.offset]? = some v ∧ v = b := by
            cases hy with
            | agg hl _ hr =>
              rename_i vs
              obtain ⟨v, hv⟩ := rep_agg_get hl hb
              refine ⟨v, by simpa using hv, ?_⟩
              have := hr _ _ _ hb hv
              cases this; rfl
          obtain ⟨_, hva, rfl⟩ := ga
          obtain ⟨_, hvb, rfl⟩ := gb
          have pa := part_plain (P := P) hd hk (vs := xs.toArray) (by simpa using hva) e.w
          have pb := part_plain (P := P) hd hk (vs := ys.toArray) (by simpa using hvb) e.w
          split at h
          · rename_i hq
            have := equalIn_keq (P := P) hd hk hak hq 9998 e.w
            simp only [Op.eqFields, if_pos hname, Sem.run_bind, pa, pb, Result.andThen_ok, this]
            simp only [Bool.not_true, Bool.false_eq_true, if_false]
            exact eqFields_run fs l' h2 h hx hy
          · rename_i hq
            cases h
            have := equalIn_keq (P := P) hd hk hak hq 9998 e.w
            simp only [Op.eqFields, if_pos hname, Sem.run_bind, pa, pb, Result.andThen_ok, this]
            simp
          · cases h
        · cases h
      · cases h
    · cases h1

theorem eqs_run {op : BinOp} {t : TypeId} {x y : Operand} {ne : Bool} {l : List (Nat × Nat)} (hne : eqNe op = some ne) (hl : eqSpec P t = some l) {a b : AV} {va vb : Value} {r : Bool}
    (h : eqsV l a b = some r) (ha : Rep e a va) (hb : Rep e b vb) : ((eqGuard op t x y va vb).run P e.w).andThen (fun _ w => (binOp op t va vb).run P w) = (.ok (.bool (xor ne r)) e.w : Result Value) := by
  unfold eqsV at h
  split at h
  · rename_i cs ds
    unfold eqSpec at hl
    split at hl
    · rename_i fs hu
      split at hl
      · rename_i hc
        cases ha with
        | agg hla h1a h2a =>
          cases hb with
          | agg hlb h1b h2b =>
            rename_i xs ys
            have hfs : P.fieldsOf t = fs := by simp [Program.fieldsOf, hu]
            have hrun := eqFields_run (P := P) fs.toList l hl h (.agg hla h1a h2a) (.agg hlb h1b h2b)
            have hE : (Op.equalIn 10000 t (.agg xs.toArray) (.agg ys.toArray)).run P e.w = .ok r e.w := by
              rw [run_equalIn_struct e.w 9999 t _ _ (by rw [hfs]; exact hu) hc.1, hfs]
              exact hrun
            rw [run_eqGuard_agg _ _ _ _ _ _ _ hc.2]
            cases op <;> simp [eqNe] at hne <;> subst hne
            · rw [Result.andThen_ok, run_eql_struct, hE]; simp
            · rw [Result.andThen_ok, run_neq_struct, hE]; simp
      · cases hl
    · cases hl
  · cases h

theorem aop_sound {An : Ann} {ao : AOp} (hc : cop P An o = some ao) (g : Gam e n s a) {v : AV} {H' : AHeap} {N' : Nat} (h : aop ao s = some (v, H', N')) : OpRes P o a e s.H v H' N' := by
  unfold cop at hc
  split at hc
  case h_1 x ho =>
    cases hc; simp only [aop, Option.some.injEq, Prod.mk.injEq] at h
    obtain ⟨rfl, rfl, rfl⟩ := h
    rw [← g.N]
    exact .pure g.H (by simp [execOp, ho]) (g.ev x)
  case h_2 x ho =>
    cases hc; simp only [aop, Option.some.injEq, Prod.mk.injEq] at h
    obtain ⟨rfl, rfl, rfl⟩ := h
    rw [← g.N]
    exact .pure g.H (by simp [execOp, ho]) (g.ev x)
  case h_3 c x y ho =>
    cases hc; simp only [aop] at h
    split at h
    · rename_i t hct
      simp only [Option.some.injEq, Prod.mk.injEq] at h
      obtain ⟨rfl, rfl, rfl⟩ := h
      rw [← g.N]
      have hcv := g.ev c
      rw [hct] at hcv
      generalize hgc : a.eval c = cv at hcv
      cases hcv
      cases t
      · exact .pure g.H (by simp [execOp, ho, hgc, asBool]) (g.ev y)
      · exact .pure g.H (by simp [execOp, ho, hgc, asBool]) (g.ev x)
    · cases h
  case h_4 x ho =>
    cases hc
    refine .ofP g h fun r hr => ?_
    obtain ⟨rfl, ad, had⟩ := anil_run hr (g.ev x)
    exact ⟨_, by simp [execOp, ho, had], had ▸ g.ev x⟩
  case h_5 op t x y ty ho =>
    split at hc
    · rename_i ne l hne hl
      cases hc
      refine .ofP g h fun r hr => ?_
      simp only [Option.map_eq_some_iff] at hr
      obtain ⟨b, hb, rfl⟩ := hr
      exact ⟨.bool (xor ne b), by simp only [execOp, ho, Sem.run_bind]; rw [eqs_run (x := x) (y := y) hne hl hb (g.ev x) (g.ev y)]; rfl, .lit _⟩
    · cases hc
      refine .ofP g h fun r hr => ?_
      obtain ⟨u, h1, h2⟩ := abin_run (P := P) (x := x) (y := y) hr (g.ev x) (g.ev y)
      refine ⟨u, ?_, h2⟩
      simp only [execOp, ho, Sem.run_bind] at h1 ⊢
      rw [h1]; rfl
  case h_6 op t x ho =>
    cases hc
    refine .ofP g h fun r hr => ?_
    obtain ⟨u, h1, h2⟩ := aun_run (P := P) hr (g.ev x)
    exact ⟨u, by simp [execOp, ho, h1], h2⟩
  case h_7 src dst x ho =>
    split at hc
    · rename_i ks kd hs hd
      cases hc; simp only [aop] at h
      split at h
      · rename_i kx m hx
        simp only [Option.some.injEq, Prod.mk.injEq] at h
        obtain ⟨rfl, rfl, rfl⟩ := h
        rw [← g.N]
        have hxv := g.ev x
        rw [hx] at hxv
        generalize hgx : a.eval x = xv at hxv
        cases hxv
        exact .pure g.H (by simp [execOp, ho, hgx, convert, run_underlying hs, run_underlying hd, Conv.intToInt]) (.lit _)
      · cases h
    · rename_i el hs hd
      split at hc
      · rename_i hel
        cases hc
        refine .ofP g h fun r hr => ?_
        obtain ⟨u, h1, h2⟩ := abstr_run (P := P) g.H hr (g.ev x)
        refine ⟨u, ?_, h2⟩
        have hcv : (convert src dst (a.eval x)).run P e.w = .ok u e.w := by
          have hx := g.ev x
          simp only [abstr, Option.bind_eq_some_iff] at hr
          obtain ⟨⟨cs, m⟩, h3, _⟩ := hr
          obtain ⟨_, _, _, ⟨ad, c, hv⟩, _⟩ := asrc_run (P := P) g.H h3 hx
          rw [hv] at h1 ⊢
          simp [convert, run_underlying hs, run_underlying hd, run_underlying hel, h1]
        simp [execOp, ho, hcv]
      · cases hc
    · cases hc
  case h_8 x i ho =>
    cases hc; simp only [aop] at h
    split at h
    · rename_i cs hx
      refine .ofP g h fun r hr => ?_
      have hxv := g.ev x
      rw [hx] at hxv
      generalize hgx : a.eval x = xv at hxv
      cases hxv with
      | tup hl hh =>
        obtain ⟨u, hu⟩ := rep_agg_get hl hr
        exact ⟨u, by simp [execOp, ho, hgx, Instr.extract, hu], hh i r u hr hu⟩
    · cases h
  case h_9 t x f ho =>
    split at hc
    · rename_i fs hu
      split at hc
      · rename_i fl hf
        split at hc
        · rename_i sz d hsz hd
          cases hc; simp only [aop] at h
          split at h
          · rename_i cs hx
            refine .ofP g h fun r hr => ?_
            have hxv := g.ev x
            rw [hx] at hxv
            obtain ⟨vs, hvs, u, h1, h2⟩ := apart_run hd hsz hr hxv
            exact ⟨u, by simp [execOp, ho, Instr.field, run_underlying hu, hf, hvs, asAgg, h1], h2⟩
          · cases h
        · cases hc
      · cases hc
    · cases hc
  case h_10 t x f ho =>
    split at hc
    · rename_i fs hu
      split at hc
      · rename_i fl hf
        split at hc
        · rename_i sz hsz
          cases hc
          refine .ofP g h fun r hr => ?_
          obtain ⟨u, h1, h2⟩ := afield_run hu hf ⟨_, hsz⟩ hr (g.ev x)
          exact ⟨u, by simp [execOp, ho, h1], h2⟩
        · cases hc
      · cases hc
    · cases hc
  case h_11 t x i ho =>
    split at hc
    · rename_i el hu
      simp only [Option.map_eq_some_iff] at hc
      obtain ⟨sz, hsz, rfl⟩ := hc
      refine .ofP g h fun r hr => ?_
      obtain ⟨u, h1, h2⟩ := aindex_run hu hsz hr (g.ev x) (g.ev i)
      exact ⟨u, by simp [execOp, ho, h1], h2⟩
    · rename_i len el hu
      simp only [Option.map_eq_some_iff] at hc
      obtain ⟨sz, hsz, rfl⟩ := hc
      refine .ofP g h fun r hr => ?_
      obtain ⟨u, h1, h2⟩ := aindexP_run hu hsz hr (g.ev x) (g.ev i)
      exact ⟨u, by simp [execOp, ho, h1], h2⟩
    · cases hc
  case h_12 t x i ho =>
    split at hc
    · rename_i hu
      cases hc
      refine .ofP g h fun r hr => ?_
      obtain ⟨u, h1, h2⟩ := aidxs_run hu hr (g.ev x) (g.ev i)
      exact ⟨u, by simp [execOp, ho, h1], h2⟩
    · rename_i len el hu
      split at hc
      · rename_i sz d hsz hd
        cases hc
        refine .ofP g h fun r hr => ?_
        obtain ⟨u, h1, h2⟩ := aindexA_run hu hd hsz hr (g.ev x) (g.ev i)
        exact ⟨u, by simp [execOp, ho, h1], h2⟩
      · cases hc
    · cases hc
  case h_13 t x lo hi mx ho =>
    split at hc
    · rename_i el hu
      simp only [Option.map_eq_some_iff] at hc
      obtain ⟨sz, hsz, rfl⟩ := hc
      refine .ofP g h fun r hr => ?_
      obtain ⟨u, h1, h2⟩ := aslice_run hu hsz hr (g.ev x) g.evO g.evO g.evO
      exact ⟨u, by simp [execOp, ho, h1], h2⟩
    · rename_i hu
      cases hc
      refine .ofP g h fun r hr => ?_
      obtain ⟨u, h1, h2⟩ := strSlice_run hu hr (g.ev x) g.evO g.evO
      exact ⟨u, by simp [execOp, ho, h1], h2⟩
    · rename_i nn el hu
      simp only [Option.map_eq_some_iff] at hc
      obtain ⟨sz, hsz, rfl⟩ := hc
      refine .ofP g h fun r hr => ?_
      obtain ⟨u, h1, h2⟩ := asliceA_run g.H hu hsz hr (g.ev x) g.evO g.evO
      exact ⟨u, by simp [execOp, ho, h1], h2⟩
    · cases hc
  case h_14 t x ho =>
    split at hc
    · rename_i hcon
      cases hc; simp only [aop, Option.some.injEq, Prod.mk.injEq] at h
      obtain ⟨rfl, rfl, rfl⟩ := h
      rw [← g.N]
      exact .pure g.H (by simp [execOp, ho, run_makeInterface, hcon]) (.ifc (g.ev x))
    · cases hc
  case h_15 f first capt ho =>
    cases hc; simp only [aop, Option.some.injEq, Prod.mk.injEq] at h
    obtain ⟨rfl, rfl, rfl⟩ := h
    rw [← g.N]
    refine .pure (rv := .func f (first.toList.map a.eval).toArray (capt.toList.map a.eval).toArray) g.H ?_ (.fn (by simp) (by simp) (g.evs _) (g.evs _))
    simp only [execOp, ho, Instr.makeFunc, Sem.run_bind, Sem.run_pure, Result.andThen_ok]
    congr 3 <;> (apply Array.ext'; simp)
  case h_16 t parts ho =>
    split at hc
    · rename_i fs hu
      split at hc
      · rename_i ti hi
        split at hc
        · rename_i z places hz hp
          split at hc
          · rename_i hall
            simp only [Option.map_eq_some_iff] at hc
            obtain ⟨ps, hps, rfl⟩ := hc
            obtain ⟨hpl, hpg⟩ := mapM_get hps
            refine .ofP g h fun r hr => ?_
            simp only [Option.map_eq_some_iff] at hr
            obtain ⟨cs, hcs, rfl⟩ := hr
            have hrp : (parts.map fun x => (x.1, a.eval x.2)) = ((parts.toList.map fun x => (x.1, a.eval x.2))).toArray := by apply Array.ext'; simp
            obtain ⟨u, h1, h2⟩ := build_run (P := P) (e := e) hu hi hz (fun u hu => List.all_eq_true.1 hall u hu) hp (parts := ps.map fun x => (x.1, x.2.1, s.ev x.2.2)) (rp := parts.toList.map fun x => (x.1, a.eval x.2))
              (by simp [hpl]) (fun i x y hx hy => by
                simp only [List.getElem?_map, Option.map_eq_some_iff] at hx hy
                obtain ⟨x', hx', rfl⟩ := hx
                obtain ⟨y', hy', rfl⟩ := hy
                have := hpg i y' x' hy' hx'
                simp only [Option.map_eq_some_iff] at this
                obtain ⟨q, hq, rfl⟩ := this
                exact ⟨hq, g.ev _⟩) hcs
            refine ⟨u, ?_, h2⟩
            simp only [execOp, ho]
            rw [show (parts.map fun (i, x) => (i, a.eval x)) = ((parts.toList.map fun x => (x.1, a.eval x.2))).toArray from hrp]
            simp [h1]
          · cases hc
        · cases hc
      · cases hc
    · cases hc
  case h_17 t len parts ho =>
    split at hc
    · rename_i el hu
      split at hc
      · rename_i ti hi
        split at hc
        · rename_i z hz
          simp only at hc
          generalize hzs : (if len * ti.size = 0 then [] else zrow z (len * ti.size)) = zs at hc
          split at hc
          · rename_i hcond
            obtain ⟨h24, hall⟩ := hcond
            cases hc
            simp only [aop] at h
            split at h
            · rename_i cs hcs
              have hrp : (parts.map fun x => (x.1, a.eval x.2)) = ((parts.toList.map fun x => (x.1, a.eval x.2))).toArray := by apply Array.ext'; simp
              obtain ⟨cells, hl, hrel, hrun⟩ := bslice_run (P := P) (e := e) hu hi hz h24 hzs.symm (fun u hu => List.all_eq_true.1 hall u hu) (parts := (parts.toList.map fun x => (x.1 * ti.size, ti.size, cX x.2)).map fun x => (x.1, x.2.1, s.ev x.2.2)) (rp := parts.toList.map fun x => (x.1, a.eval x.2))
                (by simp) (fun i x y hx hy => by
                  simp only [List.map_map, List.getElem?_map, Option.map_eq_some_iff] at hx hy
                  obtain ⟨x', hx', rfl⟩ := hx
                  obtain ⟨y', hy', rfl⟩ := hy
                  rw [hx'] at hy'
                  cases hy'
                  exact ⟨rfl, g.ev _⟩) hcs
              have hex : ∀ e' : Env, e'.w = e.w.alloc (.cells cells.toArray el) → (execOp a.eval o).run P e.w = .ok (.value (.slice (some ⟨e.w.heap.size, 0, none⟩) len len)) e'.w := fun e' he' => by
                simp only [execOp, ho]
                rw [show (parts.map fun (i, x) => (i, a.eval x)) = ((parts.toList.map fun x => (x.1, a.eval x.2))).toArray from hrp, he']
                simp [hrun]
              have hcl : cs.length = len * ti.size := by have := hrel.1; omega
              split at h
              · simp only [Option.some.injEq, Prod.mk.injEq] at h
                obtain ⟨rfl, rfl, rfl⟩ := h
                obtain ⟨g1, g2⟩ := new_obj g.H el (rest := []) hrel.1 hrel.2
                rw [List.append_nil] at g1 g2
                rw [← g.N]
                exact ⟨_, _, e.allocO (.cells cells.toArray el), hex _ rfl, .inl rfl, rep_new_ms el (Nat.le_refl _) (by omega), g1, rfl, g2⟩
              · simp only [Option.some.injEq, Prod.mk.injEq] at h
                obtain ⟨rfl, rfl, rfl⟩ := h
                obtain ⟨g1, g2, g3⟩ := hrel.memAt_new (rest := []) g.H el
                rw [List.append_nil] at g1 g2 g3
                exact ⟨_, _, e.allocI (.cells cells.toArray el), hex _ rfl, .inl rfl, rep_chunks (by simp) (.inr rfl) (Nat.le_refl _) (fun _ => rfl) (by omega) g3, g1, g.N, g2⟩
            · cases h
          · cases hc
        · cases hc
      · cases hc
    · cases hc
  case h_18 t x ho =>
    split at hc
    · rename_i sz d hsz hd
      cases hc
      split at h
      · refine .ofP g h fun r hr => ?_
        have hnone : HRep e (fun _ => none) := ⟨(fun id o ho => by cases ho), (fun i j o o' ho => by cases ho), g.H.imm, g.H.gl⟩
        obtain ⟨u, h1, h2⟩ := aload_run hnone hd hsz hr (g.ev x)
        exact ⟨u, by simp [execOp, ho, h1], h2⟩
      · refine .ofP g h fun r hr => ?_
        obtain ⟨u, h1, h2⟩ := aload_run g.H hd hsz hr (g.ev x)
        exact ⟨u, by simp [execOp, ho, h1], h2⟩
    · cases hc
  case h_19 t x y ho =>
    simp only [Option.map_eq_some_iff] at hc
    obtain ⟨sz, hsz, rfl⟩ := hc
    simp only [aop, Option.map_eq_some_iff, Prod.mk.injEq] at h
    obtain ⟨H1, h1, rfl, rfl, rfl⟩ := h
    obtain ⟨e', h2, h3, h4, h5⟩ := astore_run (P := P) g.H hsz h1 (g.ev x) (g.ev y)
    exact ⟨_, _, e', by simp only [execOp, ho, Sem.run_bind, h2, Result.andThen_ok, Sem.run_pure], .inr ⟨rfl, rfl⟩, .lit _, h3, h4.trans g.N, h5⟩
  case h_20 t ho =>
    split at hc
    · rename_i z hz
      simp only [Option.map_eq_some_iff] at hc
      obtain ⟨cs, hcs, rfl⟩ := hc
      have h : some (AV.mp s.N 0, s.H.set s.N (.blk cs), s.N + 1) = some (v, H', N') := by
        split at h
        · simp only [aop] at h
          split at h
          · exact h
          · cases h
        · exact h
      simp only [Option.some.injEq, Prod.mk.injEq] at h
      obtain ⟨rfl, rfl, rfl⟩ := h
      obtain ⟨u, e', h2, h3, h4, h5, h6⟩ := alloc_run (P := P) g.H hz hcs (rep_cAV e z)
      rw [← g.N]
      exact ⟨_, _, e', by simp only [execOp, ho, Sem.run_bind, h2, Result.andThen_ok, Sem.run_pure], .inl rfl, h3, h4, h5, h6⟩
    · cases hc
  case h_21 t x ho =>
    cases hc
    simp only [aop, Option.map_eq_some_iff] at h
    obtain ⟨cs, hcs, h⟩ := h
    split at h
    · simp only [Prod.mk.injEq] at h
      obtain ⟨rfl, rfl, rfl⟩ := h
      obtain ⟨hb1, hb2⟩ := cells_list hcs (g.ev x)
      have hrel : RelC e cs (a.eval x).cells.toList := ⟨hb1, hb2⟩
      obtain ⟨g1, g2, g3⟩ := hrel.memAt_new (rest := []) g.H t
      rw [List.append_nil] at g1 g2 g3
      refine ⟨.value (.pointer (some ⟨e.w.heap.size, 0, none⟩)), _, e.allocI (.cells (a.eval x).cells.toList.toArray t), ?_, .inl rfl, rep_ip_intro (o := 0) (.inr rfl) g3, g1, g.N, g2⟩
      simp only [execOp, ho, Instr.box, newVar, newRow, newObj, Sem.run_bind, Sem.run_pure, Result.andThen_ok, Sem.run]
      rfl
    · simp only [Prod.mk.injEq] at h
      obtain ⟨rfl, rfl, rfl⟩ := h
      obtain ⟨u, e', h2, h3, h4, h5, h6⟩ := box_run (P := P) g.H t hcs (g.ev x)
      rw [← g.N]
      exact ⟨_, _, e', by simp only [execOp, ho, Sem.run_bind, h2, Result.andThen_ok, Sem.run_pure], .inl rfl, h3, h4, h5, h6⟩
  case h_22 t l c ho =>
    split at hc
    · rename_i el hu
      split at hc
      · rename_i ti hi
        split at hc
        · rename_i z hz
          split at hc
          · rename_i hall
            cases hc
            simp only [aop, Option.map_eq_some_iff, Prod.mk.injEq] at h
            obtain ⟨⟨m, k⟩, hmk, rfl, rfl, rfl⟩ := h
            obtain ⟨u, e', h2, h3, h4, h5, h6⟩ := make_run (P := P) g.H hu hi hz (relC_zero hall e) hmk (g.ev l) (g.ev c)
            rw [← g.N]
            exact ⟨_, _, e', by simp only [execOp, ho, Sem.run_bind, h2, Result.andThen_ok, Sem.run_pure], .inl rfl, h3, h4, h5, h6⟩
          · cases hc
        · cases hc
      · cases hc
    · cases hc
  case h_23 f args at_ ho =>
    cases hc
    split at h
    · simp [aop] at h
    · split at h <;> simp [aop] at h
  case h_24 args argTypes ho =>
    split at hc
    · rename_i x t hargs htys
      have ha : args = #[x] := by apply Array.ext'; simpa using hargs
      have ht : argTypes = #[t] := by apply Array.ext'; simpa using htys
      subst ha; subst ht
      split at hc
      · rename_i hu
        cases hc
        refine .ofP g h fun r hr => ?_
        obtain ⟨u, h1, h2⟩ := alen_run (P := P) (ty := o.type) (.inl ⟨rfl, hu⟩) hr (g.ev x)
        exact ⟨u, by simp [execOp, ho, resolve, invoke, builtin, h1], h2⟩
      · rename_i el hu
        cases hc
        refine .ofP g h fun r hr => ?_
        obtain ⟨u, h1, h2⟩ := alen_run (P := P) (ty := o.type) (.inr (.inl ⟨rfl, el, hu⟩)) hr (g.ev x)
        exact ⟨u, by simp [execOp, ho, resolve, invoke, builtin, h1], h2⟩
      · rename_i ky el hu
        cases hc
        refine .ofP g h fun r hr => ?_
        obtain ⟨u, h1, h2⟩ := alenm_run (P := P) (ty := o.type) g.H hu hr (g.ev x)
        exact ⟨u, by simp [execOp, ho, resolve, invoke, builtin, h1], h2⟩
      · cases hc
    · cases hc
  case h_25 args argTypes ho =>
    split at hc
    · rename_i x y t t' hargs htys
      have ha : args = #[x, y] := by apply Array.ext'; simpa using hargs
      have ht : argTypes = #[t, t'] := by apply Array.ext'; simpa using htys
      subst ha; subst ht
      split at hc
      · rename_i htt
        subst htt
        split at hc
        · rename_i el hu
          split at hc
          · rename_i ti hi
            split at hc
            · rename_i z hz
              split at hc
              · rename_i hzs
                cases hc
                split at h
                · simp only [aop] at h
                  split at h
                  · rw [← g.N] at h
                    obtain ⟨u, e', h2, h3, h4, h5, h6⟩ := aappend_run (P := P) (ty := o.type) g.H hu hi hz hzs h (g.ev x) (g.ev y)
                    exact ⟨_, _, e', by simp [execOp, ho, resolve, invoke, builtin, h2], .inl rfl, h3, h4, h5, h6⟩
                  · cases h
                · split at h
                  · simp only [aop] at h
                    split at h
                    · rw [← g.N] at h
                      obtain ⟨u, e', h2, h3, h4, h5, h6⟩ := aappend_run (P := P) (ty := o.type) g.H hu hi hz hzs h (g.ev x) (g.ev y)
                      exact ⟨_, _, e', by simp [execOp, ho, resolve, invoke, builtin, h2], .inl rfl, h3, h4, h5, h6⟩
                    · cases h
                  split at h
                  · simp only [aop, Option.map_eq_some_iff, Prod.mk.injEq] at h
                    obtain ⟨_, ha, rfl, rfl, rfl⟩ := h
                    have ha := afap_ok (N := e.N) ha
                    obtain ⟨u, e', h2, h3, h4, h5, h6⟩ := aappend_run (P := P) (ty := o.type) g.H hu hi hz hzs ha (g.ev x) (g.ev y)
                    exact ⟨_, _, e', by simp [execOp, ho, resolve, invoke, builtin, h2], .inl rfl, h3, h4, h5.trans g.N, h6⟩
                  simp only [aop] at h
                  rw [← g.N] at h
                  obtain ⟨u, e', h2, h3, h4, h5, h6⟩ := aappend_run (P := P) (ty := o.type) g.H hu hi hz hzs h (g.ev x) (g.ev y)
                  exact ⟨_, _, e', by simp [execOp, ho, resolve, invoke, builtin, h2], .inl rfl, h3, h4, h5, h6⟩
              · cases hc
            · cases hc
          · cases hc
        · cases hc
      · cases hc
    · cases hc
  case h_26 t ho =>
    cases hc
    simp only [aop, Option.some.injEq, Prod.mk.injEq] at h
    obtain ⟨rfl, rfl, rfl⟩ := h
    obtain ⟨e', h2, h3, h4, h5, h6⟩ := mkmap_run (P := P) g.H t
    rw [← g.N]
    exact ⟨_, _, e', by simp only [execOp, ho, Option.map_none, Sem.run_bind, h2, Result.andThen_ok, Sem.run_pure], .inl rfl, h3, h4, h5, h6⟩
  case h_27 t m k ok ho =>
    split at hc
    · rename_i kd z hkd hz
      cases hc
      simp only [aop] at h
      split at h
      · rename_i hak
        refine .ofP g h fun r hr => ?_
        obtain ⟨kt, el, d, hu, hd, hkc⟩ := kdOf_eq hkd
        obtain ⟨zv, hzv, rfl⟩ := mzero_eq hu hz
        obtain ⟨u, h1, h2⟩ := alookup_run (P := P) g.H hu hd hzv (rep_cAV e zv) hr (g.ev m) (g.ev k) (kind_of hkc hak)
        exact ⟨u, by simp [execOp, ho, h1], h2⟩
      · cases h
    · cases hc
  case h_28 t m k v ho =>
    simp only [Option.map_eq_some_iff] at hc
    obtain ⟨kd, hkd, rfl⟩ := hc
    simp only [aop] at h
    split at h
    · rename_i hak
      simp only [Option.map_eq_some_iff, Prod.mk.injEq] at h
      obtain ⟨H1, h1, rfl, rfl, rfl⟩ := h
      obtain ⟨kt, el, d, hu, hd, hkc⟩ := kdOf_eq hkd
      obtain ⟨e', h2, h3, h4, h5⟩ := amapset_run (P := P) g.H hu hd h1 (g.ev m) (g.ev k) (g.ev v) (kind_of hkc hak)
      exact ⟨_, _, e', by simp only [execOp, ho, Sem.run_bind, h2, Result.andThen_ok, Sem.run_pure], .inr ⟨rfl, rfl⟩, .lit _, h3, h4.trans g.N, h5⟩
    · cases h
  case h_29 t m k v ho =>
    simp only [Option.map_eq_some_iff] at hc
    obtain ⟨kd, hkd, rfl⟩ := hc
    simp only [aop] at h
    split at h
    · rename_i hak
      simp only [Option.map_eq_some_iff, Prod.mk.injEq] at h
      obtain ⟨H1, h1, rfl, rfl, rfl⟩ := h
      obtain ⟨kt, el, d, hu, hd, hkc⟩ := kdOf_eq hkd
      obtain ⟨e', h2, h3, h4, h5⟩ := amapset_run (P := P) g.H hu hd h1 (g.ev m) (g.ev k) (g.ev v) (kind_of hkc hak)
      exact ⟨_, _, e', by simp only [execOp, ho, Sem.run_bind, h2, Result.andThen_ok, Sem.run_pure], .inr ⟨rfl, rfl⟩, .lit _, h3, h4.trans g.N, h5⟩
    · cases h
  case h_30 args argTypes ho =>
    split at hc
    · rename_i m k t hargs htys
      have ha : args = #[m, k] := by apply Array.ext'; simpa using hargs
      subst ha
      simp only [Option.map_eq_some_iff] at hc
      obtain ⟨kd, hkd, rfl⟩ := hc
      simp only [aop] at h
      split at h
      · rename_i hak
        simp only [Option.map_eq_some_iff, Prod.mk.injEq] at h
        obtain ⟨H1, h1, rfl, rfl, rfl⟩ := h
        obtain ⟨kt, el, d, hu, hd, hkc⟩ := kdOf_eq hkd
        obtain ⟨e', h2, h3, h4, h5⟩ := amapdel_run (P := P) (ty := o.type) g.H hu hd htys h1 (g.ev m) (g.ev k) (kind_of hkc hak)
        exact ⟨_, _, e', by simp [execOp, ho, resolve, invoke, builtin, h2], .inl rfl, .tup (vs := []) rfl (fun i c u hc => by simp at hc), h3, h4.trans g.N, h5⟩
      · cases h
    · cases hc
  case h_31 => cases hc; simp [aop] at h
  case h_32 args argTypes ho =>
    split at hc
    · rename_i x y t t' hargs htys
      have ha : args = #[x, y] := by apply Array.ext'; simpa using hargs
      have ht : argTypes = #[t, t'] := by apply Array.ext'; simpa using htys
      subst ha; subst ht
      split at hc
      · rename_i el hu
        simp only [Option.map_eq_some_iff] at hc
        obtain ⟨sz, hsz, rfl⟩ := hc
        simp only [aop, Option.map_eq_some_iff, Prod.mk.injEq] at h
        obtain ⟨⟨m, H1⟩, h1, rfl, rfl, rfl⟩ := h
        obtain ⟨e', h2, h3, h4, h5⟩ := acopy_run (P := P) (t' := t') (ty := o.type) g.H hu hsz h1 (g.ev x) (g.ev y)
        exact ⟨_, _, e', by simp [execOp, ho, resolve, invoke, builtin, h2], .inl rfl, .lit _, h3, h4.trans g.N, h5⟩
      · cases hc
    · cases hc
  case h_33 args at_ ho =>
    split at hc
    · rename_i x y hargs
      have ha : args = #[x, y] := by apply Array.ext'; simpa using hargs
      subst ha
      cases hc
      refine .ofP g h fun r hr => ?_
      obtain ⟨u, h1, h2⟩ := amm_run (P := P) hr (g.ev x) (g.ev y) at_ o.type
      simp only [cond_true] at h1
      exact ⟨u, by simp [execOp, ho, resolve, invoke, builtin, h1], h2⟩
    · rename_i x y z hargs
      have ha : args = #[x, y, z] := by apply Array.ext'; simpa using hargs
      subst ha
      cases hc
      refine .ofP g h fun r hr => ?_
      obtain ⟨u, h1, h2⟩ := amm3_run (P := P) hr (g.ev x) (g.ev y) (g.ev z) at_ o.type
      simp only [cond_true] at h1
      exact ⟨u, by simp [execOp, ho, resolve, invoke, builtin, h1], h2⟩
    · cases hc
  case h_34 args at_ ho =>
    split at hc
    · rename_i x y hargs
      have ha : args = #[x, y] := by apply Array.ext'; simpa using hargs
      subst ha
      cases hc
      refine .ofP g h fun r hr => ?_
      obtain ⟨u, h1, h2⟩ := amm_run (P := P) hr (g.ev x) (g.ev y) at_ o.type
      simp only [cond_false] at h1
      exact ⟨u, by simp [execOp, ho, resolve, invoke, builtin, h1], h2⟩
    · rename_i x y z hargs
      have ha : args = #[x, y, z] := by apply Array.ext'; simpa using hargs
      subst ha
      cases hc
      refine .ofP g h fun r hr => ?_
      obtain ⟨u, h1, h2⟩ := amm3_run (P := P) hr (g.ev x) (g.ev y) (g.ev z) at_ o.type
      simp only [cond_false] at h1
      exact ⟨u, by simp [execOp, ho, resolve, invoke, builtin, h1], h2⟩
    · cases hc
  case h_35 args argTypes ho =>
    split at hc
    · rename_i x t hargs htys
      have ha : args = #[x] := by apply Array.ext'; simpa using hargs
      have ht : argTypes = #[t] := by apply Array.ext'; simpa using htys
      subst ha; subst ht
      split at hc
      · rename_i el hu
        split at hc
        · rename_i ti hi
          split at hc
          · rename_i z hz
            split at hc
            · rename_i hall
              cases hc
              simp only [aop, Option.map_eq_some_iff, Prod.mk.injEq] at h
              obtain ⟨H1, h1, rfl, rfl, rfl⟩ := h
              obtain ⟨e', h2, h3, h4, h5⟩ := aclear_run (P := P) (ty := o.type) g.H hu hi hz (relC_zero hall e) h1 (g.ev x)
              exact ⟨_, _, e', by simp [execOp, ho, resolve, invoke, builtin, h2], .inl rfl, .tup (vs := []) rfl (fun i c u hc => by simp at hc), h3, h4.trans g.N, h5⟩
            · cases hc
          · cases hc
        · cases hc
      · cases hc
    · cases hc
  case h_36 => cases hc

end
end Go.Fw

/- Framework, part 13: calls, code, and what must hold ahead of it. -/
namespace Go.Fw
set_option linter.unusedSimpArgs false
set_option linter.unusedVariables false
open Go
set_option linter.unusedSectionVars false
variable [Globals]

/-- A function that has a body of Go. -/
def goodFn (P : Program) (f : FuncId) : Bool :=
  match P.funcs[f]? with
  | some fn => fn.body.isSome && !(fn.name == "runtime.NumGoroutine")
  | none => false

theorem goodFn_run {P : Program} {f : FuncId} (h : goodFn P f = true) (args : Array Value) (w : World) : (callFunc f args).run P w = .ok (.enter f args) w := by
  unfold goodFn at h
  split at h
  · rename_i fn hf
    simp only [Bool.and_eq_true, Bool.not_eq_true', beq_eq_false_iff_ne, ne_eq] at h
    obtain ⟨h1, h2⟩ := h
    obtain ⟨c, hc⟩ := Option.isSome_iff_exists.1 h1
    simp [callFunc, hf, h2, hc]
  · cases h

/-- A call: whatever the world, it returns what Q says. -/
def ACall (P : Program) (f : FuncId) (args : List AV) (H : AHeap) (N : Nat) (Q : AV → AHeap → Nat → Prop) : Prop :=
  goodFn P f = true ∧ ∀ (e : Env) (vs : List Value), HRep e H → e.N = N → vs.length = args.length → (∀ (i : Nat) (c : AV) (v : Value), args[i]? = some c → vs[i]? = some v → Rep e c v) →
    Calls P f vs.toArray e.w (fun x w' => ∃ v e' r H', x = .returned v ∧ e'.w = w' ∧ Q r H' e'.N ∧ Rep e' r v ∧ HRep e' H' ∧ Tr e H e' H')

theorem ACall.mono {P : Program} {f : FuncId} {args : List AV} {H : AHeap} {N : Nat} {Q Q' : AV → AHeap → Nat → Prop} (h : ACall P f args H N Q) (hq : ∀ r H' N', Q r H' N' → Q' r H' N') : ACall P f args H N Q' :=
  ⟨h.1, fun e vs h1 h2 h3 h4 => (h.2 e vs h1 h2 h3 h4).mono fun _ _ ⟨v, e', r, H', a, b, c, d⟩ => ⟨v, e', r, H', a, b, hq _ _ _ c, d⟩⟩

/-- How a world goes on when only new memory was made. -/
structure PTr (e e' : Env) : Prop where
  ρ : e'.ρ = e.ρ
  N : e'.N = e.N
  old : ∀ b, b < e.w.heap.size → e'.w.heap[b]? = e.w.heap[b]?
  I : ∀ b, e.I b → e'.I b
  I' : ∀ b, e'.I b → e.I b ∨ (e.w.heap.size ≤ b ∧ b < e'.w.heap.size)
  size : e.w.heap.size ≤ e'.w.heap.size
  os : e'.w.os = e.w.os
  tape : e'.w.tape = e.w.tape
  output : e'.w.output = e.w.output

theorem PTr.ext {e e' : Env} (h : PTr e e') (hi : ∀ b, e.I b → b < e.w.heap.size) : Ext e e' where
  I := h.I
  imm := fun b hb => h.old b (hi b hb)
  ρ := fun id _ => by rw [h.ρ]
  N := by rw [h.N]; exact Nat.le_refl _
  shape := fun b c t fz hb => ⟨c, fz, (h.old b (lt_of_heap hb)).trans hb, rfl⟩

theorem PTr.hrep {e e' : Env} {H : AHeap} (h : PTr e e') (hH : HRep e H) : HRep e' H :=
  hH.keep (h.ext hH.imm) (fun id o ho => h.old _ (hH.at_ id o ho).2.2.lt) (fun b hb => (h.I' b hb).imp id (fun x => x.1)) (fun b hb => by
    rcases h.I' b hb with h1 | h1
    · exact Nat.lt_of_lt_of_le (hH.imm b h1) h.size
    · exact h1.2)

theorem PTr.tr {e e' : Env} {H : AHeap} (h : PTr e e') (hH : HRep e H) : Tr e H e' H :=
  ⟨h.ext hH.imm, fun b hb _ => h.old b hb, fun b ⟨i, o, h1, h2⟩ => .inl ⟨i, o, h1, by rw [← h.ρ]; exact h2⟩, fun b hb => (h.I' b hb).imp id (fun x => .inr x.1), h.size, h.os, h.tape, h.output⟩

/-- A call that only makes memory, and whose answer nobody writes. -/
def PCall (P : Program) (f : FuncId) (args : List AV) (r : AV) : Prop :=
  goodFn P f = true ∧ ∀ (e : Env) (vs : List Value), ((∀ b, e.I b → b < e.w.heap.size) ∧ GlobOk e) → vs.length = args.length → (∀ (i : Nat) (c : AV) (v : Value), args[i]? = some c → vs[i]? = some v → Rep e c v) →
    Calls P f vs.toArray e.w (fun x w' => ∃ v e', x = .returned v ∧ e'.w = w' ∧ Rep e' r v ∧ PTr e e')

theorem PCall.acall {P : Program} {f : FuncId} {args : List AV} {r : AV} (h : PCall P f args r) {H : AHeap} {N : Nat} {Q : AV → AHeap → Nat → Prop} (hq : Q r H N) : ACall P f args H N Q :=
  ⟨h.1, fun e vs h1 h2 h3 h4 => (h.2 e vs ⟨h1.imm, h1.gl⟩ h3 h4).mono fun _ _ ⟨v, e', a, b, c, d⟩ => ⟨v, e', r, H, a, b, by rw [d.N, h2]; exact hq, c, d.hrep h1, d.tr h1⟩⟩

/-- The fence of everything, within a round or not. -/
def FnR (r : Option Nat) : Fence := { Fence.wide with round := r }

/-- A round, asked for by a call of a loop's 'yield'. -/
def YRun (P : Program) (l : Nat) (args : Array Value) (w : World) (R : Ending → World → Prop) : Prop :=
  ∃ f tmps asg body, (Instr.yield l args).run P w = .ok (.round l f tmps asg body) w ∧ RoundIn Fence.wide 0 P l f tmps asg body w R

/-- A call of a loop's 'yield'. -/
def YCall (P : Program) (id : Nat) (args : List AV) (H : AHeap) (N : Nat) (Q : AV → AHeap → Nat → Prop) : Prop :=
  ∀ (e : Env) (vs : List Value), HRep e H → e.N = N → vs.length = args.length → (∀ (i : Nat) (c : AV) (v : Value), args[i]? = some c → vs[i]? = some v → Rep e c v) →
    YRun P (e.ρ id).1 vs.toArray e.w (fun x w' => ∃ v e' r H', x = .returned v ∧ e'.w = w' ∧ Q r H' e'.N ∧ Rep e' r v ∧ HRep e' H' ∧ Tr e H e' H')

theorem YCall.mono {P : Program} {id : Nat} {args : List AV} {H : AHeap} {N : Nat} {Q Q' : AV → AHeap → Nat → Prop} (h : YCall P id args H N Q) (hq : ∀ r H' N', Q r H' N' → Q' r H' N') : YCall P id args H N Q' :=
  fun e vs h1 h2 h3 h4 => by
    obtain ⟨f, tmps, asg, body, k1, k2⟩ := h e vs h1 h2 h3 h4
    exact ⟨f, tmps, asg, body, k1, k2.mono fun _ _ ⟨v, e', r, H', a, b, c, d⟩ => ⟨v, e', r, H', a, b, hq _ _ _ c, d⟩⟩

/-- A call of whatever may be called. -/
def CallV (P : Program) (f : AV) (args : List AV) (H : AHeap) (N : Nat) (Q : AV → AHeap → Nat → Prop) : Prop := match f with
  | .fn (.func f) first capt => ACall P f (first ++ args ++ capt) H N Q
  | .yl id => YCall P id args H N Q
  | _ => False

theorem CallV.mono {P : Program} {f : AV} {args : List AV} {H : AHeap} {N : Nat} {Q Q' : AV → AHeap → Nat → Prop} (h : CallV P f args H N Q) (hq : ∀ r H' N', Q r H' N' → Q' r H' N') : CallV P f args H N Q' := by
  unfold CallV at h ⊢
  split at h
  · exact h.mono hq
  · exact h.mono hq
  · exact h.elim

structure AOper where
  dst : Option Nat
  op : AOp
  guard : Option (Nat × Bool)
  deriving Inhabited

def gate (s : St) : Option (Nat × Bool) → Option Bool
  | none => some true
  | some (t, w) => match s.A t with
    | .lit (.bool b) => some (b == w)
    | .lit (.tuple _) => some false
    | _ => none

def St.upd (s : St) (d : Option Nat) (v : AV) (H : AHeap) (N : Nat) : St := St.put { s with H := H, N := N } d v

/-- All objects are as they were; there may be more. -/
def Keeps (H H' : AHeap) : Prop := ∀ id o, H id = some o → H' id = some o

/-- What must hold ahead of one operation. -/
def awpDo (P : Program) (o : AOper) (K : St → Prop) (s : St) : Prop :=
  match o.op with
  | .call f args => CallV P (s.ev f) (args.map s.ev) s.H s.N (fun r H' N' => K (s.upd o.dst r H' N'))
  | .kcall f args => match s.ev f with
    | .fn (.func f) first capt => ACall P f (first ++ args.map s.ev ++ capt) s.H s.N (fun r H' N' => Keeps s.H H' ∧ K (s.upd o.dst r H' N'))
    | .yl _ => False
    | _ => False
  | .pcall f args => match s.ev f with
    | .fn (.func f) first capt => ∃ r, PCall P f (first ++ args.map s.ev ++ capt) r ∧ K (s.put o.dst r)
    | .yl _ => False
    | _ => False
  | op => match aop op s with
    | some (v, H', N') => K (s.upd o.dst v H' N')
    | none => False

def awpOp (P : Program) (o : AOper) (K : St → Prop) (s : St) : Prop :=
  match o.guard with
  | none => awpDo P o K s
  | some g => ∃ b, gate s (some g) = some b ∧ (b = true → awpDo P o K s) ∧ (b = false → K (s.put o.dst (.lit undef)))

def awpOps (P : Program) : List AOper → (St → Prop) → St → Prop
  | [], K, s => K s
  | o :: os, K, s => awpOp P o (awpOps P os K) s

inductive AExit where
  | normal
  | exit (id : Nat)
  | ret
  deriving DecidableEq

inductive ACode where
  | skip
  | ops (l : List AOper)
  | seq (a b : ACode)
  | cond (c : AX) (a b : ACode)
  | block (id : Nat) (a : ACode)
  | loop (a : ACode)
  | exit (id : Nat)
  | ret
  | range (f : AX) (ps : List Nat) (asg body : ACode)
  | draw (l : List (Nat × AOper × List Nat))
  | bad
  deriving Inhabited

/-- Where one of the operations of a region may be taken: it is not done yet, those on which it waits are, and so for all that are done. -/
def DrawAt (l : List (Nat × AOper × List Nat)) (L : Nat → Bool) (x : Nat × AOper × List Nat) : Prop := L x.1 = false ∧ (∀ j ∈ x.2.2, L j = true) ∧ ∀ y ∈ l, L y.1 = true → ∀ j ∈ y.2.2, L j = true

/-- A round's temporaries: the loop's, with what is yielded. -/
def putL (A : Nat → AV) : List Nat → List AV → Nat → AV
  | p :: ps, a :: as => putL (fun t => if t = p then a else A t) ps as
  | _, _ => A

def awp (P : Program) : ACode → (AExit → St → Prop) → St → Prop
  | .skip, Q, s => Q .normal s
  | .ops l, Q, s => awpOps P l (Q .normal) s
  | .seq a b, Q, s => awp P a (fun x s' => match x with | .normal => awp P b Q s' | .exit i => Q (.exit i) s' | .ret => Q .ret s') s
  | .cond c a b, Q, s => match s.ev c with
    | .lit (.bool t) => (t = true → awp P a Q s) ∧ (t = false → awp P b Q s)
    | _ => False
  | .block id a, Q, s => awp P a (fun x s' => match x with | .normal => Q .normal s' | .exit i => if i = id then Q .normal s' else Q (.exit i) s' | .ret => Q .ret s') s
  | .loop a, Q, s => ∃ (J : Nat → St → Prop) (n : Nat), J n s ∧ ∀ n s', J n s' → awp P a (fun x s'' => match x with | .normal => ∃ m, m < n ∧ J m s'' | .exit i => Q (.exit i) s'' | .ret => Q .ret s'') s'
  | .exit id, Q, s => Q (.exit id) s
  | .ret, Q, s => Q .ret s
  | .range fx ps asg body, Q, s => match s.ev fx with
    | .fn (.func f) [] capt => ∀ (o ob : AObj) (od : AExit → AObj),
      (∀ (args : List AV) (H : AHeap) (N : Nat) (Q1 : AV → AHeap → Nat → Prop), H s.N = some o → args.length = ps.length →
        awp P asg (fun x s1 => x = .normal ∧ s1.H s.N = some o ∧ awp P body (fun x s2 => s2.H s.N = some ob ∧ (match x with
            | .normal => Q1 (.lit (.bool true)) (s2.H.set s.N o) s2.N
            | x => Q1 (.lit (.bool false)) (s2.H.set s.N (od x)) s2.N)) { s1 with H := s1.H.set s.N ob }) ⟨putL s.A ps args, H, N⟩ →
        YCall P s.N args H N Q1) →
      ACall P f (.yl s.N :: capt) (s.H.set s.N o) (s.N + 1) (fun _ H' N' => (H' s.N = some o ∧ Q .normal ⟨s.A, H'.del s.N, N'⟩) ∨ ∃ x, x ≠ .normal ∧ H' s.N = some (od x) ∧ Q x ⟨s.A, H'.del s.N, N'⟩)
    | _ => False
  | .draw l, Q, s => ∃ Inv : (Nat → Bool) → St → Prop, Inv (fun _ => false) s ∧ (∀ x ∈ l, ∀ L s', DrawAt l L x → Inv L s' → awpOp P x.2.1 (Inv (fun j => L j || j == x.1)) s') ∧ ∀ L s', (∀ x ∈ l, L x.1 = true) → Inv L s' → Q .normal s'
  | .bad, _, _ => False

def dstOk (n : Nat) (d : Option Nat) : Bool :=
  match d with
  | some d => decide (d < n)
  | none => true

theorem dstOk_lt {n : Nat} {d : Option Nat} (h : dstOk n d = true) : ∀ x, d = some x → x < n := fun x hx => by
  subst hx; simpa [dstOk] using h

/-- An operation that is not taken must not be reached. -/
def copB (P : Program) (An : Ann) (o : Oper) : AOp := (cop P An o).getD .bad

/-- Operations of a region, compiled. -/
def coper (P : Program) (An : Ann) (n : Nat) (ops : Array Oper) (o : Oper) : Option AOper :=
  if dstOk n o.dst = true then
    match o.guard with
    | none => some ⟨o.dst, copB P An o, none⟩
    | some (j, w) => match (ops[j]?).bind (·.dst) with
      | some t => some ⟨o.dst, copB P An o, some (t, w)⟩
      | none => none
  else none

section
variable {P : Program} {n : Nat}

/-- The marks that loops over functions have left among the deferred calls: blocks of nobody's, with no call. -/
def mark (D : Nat) : Deferred := { target := .collected D, args := #[] }
def Marks (e0 e : Env) (H : AHeap) (ds : List Deferred) : Prop :=
  ∃ Ds : List Nat, ds = Ds.map mark ∧ Ds.Nodup ∧ ∀ D ∈ Ds, e.w.heap[D]? = some (.deferred (some [])) ∧ ¬ e.I D ∧ ¬ Own e H D ∧ e0.w.heap.size ≤ D

theorem Marks.nil (e0 e : Env) (H : AHeap) : Marks e0 e H [] := ⟨[], rfl, .nil, fun D hD => by cases hD⟩

theorem Marks.tr {e0 e e' : Env} {H H' : AHeap} {ds : List Deferred} (h : Marks e0 e H ds) (t : Tr e H e' H') : Marks e0 e' H' ds := by
  obtain ⟨Ds, h1, h2, h3⟩ := h
  refine ⟨Ds, h1, h2, fun D hD => ?_⟩
  obtain ⟨k1, k2, k3, k4⟩ := h3 D hD
  have hlt := lt_of_heap k1
  refine ⟨(t.fr D hlt k3).trans k1, fun hI => ?_, fun hO => ?_, k4⟩
  · rcases t.im D hI with g | g | g
    · exact k2 g
    · exact k3 g
    · omega
  · rcases t.own D hO with g | g
    · exact k3 g
    · omega

/-- What is known behind a piece of code. -/
def Nx (n : Nat) (e0 : Env) (H0 : AHeap) (K : St → Prop) : Act → World → Prop := fun a w =>
  ∃ e s, e.w = w ∧ K s ∧ Gam e n s a ∧ Marks e0 e s.H a.defers ∧ Tr e0 H0 e s.H

def ExitRel : AExit → Exit → Prop
  | .normal, .normal => True
  | .exit i, .exit j => i = j
  | .ret, .ret => True
  | _, _ => False

def Sat (n : Nat) (e0 : Env) (H0 : AHeap) (Q : AExit → St → Prop) : Exit → Act → World → Prop := fun x a w => ∃ y, ExitRel y x ∧ Nx n e0 H0 (Q y) a w

theorem gate_run {e : Env} {s : St} {a : Act} (g : Gam e n s a) {ops : Array Oper} {o : Oper} {j t : Nat} {w b : Bool} (hg : o.guard = some (j, w)) (ht : (ops[j]?).bind (·.dst) = some t)
    (h : gate s (some (t, w)) = some b) : Region.wanted o (yielded ops a.tmps) = b := by
  have hv := g.tm t
  have hgd : ∀ v, a.tmps.getD t undef = v → (a.tmps[t]?).getD undef = v := fun v hv => by rw [← hv]; simp [Array.getD_eq_getD_getElem?]
  unfold gate at h
  simp only at h
  unfold Region.wanted yielded
  simp only [hg, ht]
  split at h
  · rename_i c hc
    rw [hc] at hv
    generalize hx : a.tmps.getD t undef = x at hv
    cases hv
    have h1 := hgd _ hx
    cases h2 : a.tmps[t]? with
    | none => simp [h2, undef] at h1
    | some y =>
      simp [h2] at h1
      subst h1
      simp only [Option.bind_some, h2]
      cases h
      cases c <;> cases w <;> rfl
  · rename_i c hc
    rw [hc] at hv
    generalize hx : a.tmps.getD t undef = x at hv
    cases hv
    have h1 := hgd _ hx
    cases h
    cases h2 : a.tmps[t]? with
    | none => simp [h2]
    | some y =>
      simp [h2] at h1
      subst h1
      simp [h2]
  · cases h

theorem callee_run {e : Env} {s : St} {a : Act} (g : Gam e n s a) {o : Oper} {fx : Operand} {args : Array Operand} {at_ : Array TypeId} (ho : o.op = .call { callee := .value fx, args := args, argTypes := at_ })
    {f : FuncId} {first capt : List AV} (hf : s.ev (cX fx) = .fn (.func f) first capt) (hgood : goodFn P f = true) :
    ∃ vs : List Value, (execOp a.eval o).run P e.w = .ok (.enter f vs.toArray) e.w ∧ vs.length = (first ++ (args.toList.map cX).map s.ev ++ capt).length ∧
      ∀ (i : Nat) (c : AV) (v : Value), (first ++ (args.toList.map cX).map s.ev ++ capt)[i]? = some c → vs[i]? = some v → Rep e c v := by
  have hv := g.ev fx
  rw [hf] at hv
  generalize hx : a.eval fx = x at hv
  cases hv with
  | fn h1 h2 h3 h4 =>
    rename_i fs cs
    refine ⟨fs ++ args.toList.map a.eval ++ cs, ?_, by simp [h1, h2], fun i c v hc hv => ?_⟩
    · have hargs : fs.toArray ++ args.map a.eval ++ cs.toArray = (fs ++ args.toList.map a.eval ++ cs).toArray := by apply Array.ext'; simp
      simp only [execOp, ho, resolve, Deferred.ofValue, hx, Sem.run_bind, Sem.run_pure, Result.andThen_ok, invoke, hargs]
      exact goodFn_run hgood _ _
    · by_cases hi : i < first.length
      · rw [List.append_assoc, List.getElem?_append_left hi] at hc
        rw [List.append_assoc, List.getElem?_append_left (by omega)] at hv
        exact h3 i c v hc hv
      · rw [List.append_assoc, List.getElem?_append_right (by omega)] at hc
        rw [List.append_assoc, List.getElem?_append_right (by omega), h1] at hv
        by_cases hj : i - first.length < args.toList.length
        · rw [List.getElem?_append_left (by simpa using hj)] at hc
          rw [List.getElem?_append_left (by simpa using hj)] at hv
          exact g.evs args.toList _ c v hc hv
        · rw [List.getElem?_append_right (by simpa using hj)] at hc
          rw [List.getElem?_append_right (by simpa using hj)] at hv
          simp only [List.length_map] at hc hv
          exact h4 _ c v hc hv

theorem cop_call1 {An : Ann} {o : Oper} {fx : AX} {args : List AX} (hc : cop P An o = some (.call fx args)) :
    ∃ fo args' at_, o.op = .call { callee := .value fo, args := args', argTypes := at_ } ∧ fx = cX fo ∧ args = args'.toList.map cX := by
  unfold cop at hc
  split at hc
  case h_23 fo args' at_ ho =>
    split at hc
    · cases hc <;> exact ⟨fo, args', at_, ho, rfl, rfl⟩
    · split at hc <;> cases hc <;> exact ⟨fo, args', at_, ho, rfl, rfl⟩
  all_goals first | (cases hc; done) | (exfalso; revert hc; (repeat' (first | split | (intro hc; cases hc; done) | (simp only [Option.map_eq_some_iff]; intro ⟨_, _, hx⟩; cases hx; done) | (intro hc; dsimp only at hc; split at hc <;> cases hc))))

theorem cop_call2 {An : Ann} {o : Oper} {fx : AX} {args : List AX} (hc : cop P An o = some (.pcall fx args)) :
    ∃ fo args' at_, o.op = .call { callee := .value fo, args := args', argTypes := at_ } ∧ fx = cX fo ∧ args = args'.toList.map cX := by
  unfold cop at hc
  split at hc
  case h_23 fo args' at_ ho =>
    split at hc
    · cases hc <;> exact ⟨fo, args', at_, ho, rfl, rfl⟩
    · split at hc <;> cases hc <;> exact ⟨fo, args', at_, ho, rfl, rfl⟩
  all_goals first | (cases hc; done) | (exfalso; revert hc; (repeat' (first | split | (intro hc; cases hc; done) | (simp only [Option.map_eq_some_iff]; intro ⟨_, _, hx⟩; cases hx; done) | (intro hc; dsimp only at hc; split at hc <;> cases hc))))

theorem cop_call3 {An : Ann} {o : Oper} {fx : AX} {args : List AX} (hc : cop P An o = some (.kcall fx args)) :
    ∃ fo args' at_, o.op = .call { callee := .value fo, args := args', argTypes := at_ } ∧ fx = cX fo ∧ args = args'.toList.map cX := by
  unfold cop at hc
  split at hc
  case h_23 fo args' at_ ho =>
    split at hc
    · cases hc <;> exact ⟨fo, args', at_, ho, rfl, rfl⟩
    · split at hc <;> cases hc <;> exact ⟨fo, args', at_, ho, rfl, rfl⟩
  all_goals first | (cases hc; done) | (exfalso; revert hc; (repeat' (first | split | (intro hc; cases hc; done) | (simp only [Option.map_eq_some_iff]; intro ⟨_, _, hx⟩; cases hx; done) | (intro hc; dsimp only at hc; split at hc <;> cases hc))))

theorem callee_run_y {e : Env} {s : St} {a : Act} (g : Gam e n s a) {o : Oper} {fx : Operand} {args : Array Operand} {at_ : Array TypeId} (ho : o.op = .call { callee := .value fx, args := args, argTypes := at_ })
    {id : Nat} (hf : s.ev (cX fx) = .yl id) {Q : AV → AHeap → Nat → Prop} (h : YCall P id ((args.toList.map cX).map s.ev) s.H s.N Q) :
    ∃ f tmps asg body, (execOp a.eval o).run P e.w = .ok (.round (e.ρ id).1 f tmps asg body) e.w ∧ RoundIn Fence.wide 0 P (e.ρ id).1 f tmps asg body e.w
      (fun x w' => ∃ v e' r H', x = .returned v ∧ e'.w = w' ∧ Q r H' e'.N ∧ Rep e' r v ∧ HRep e' H' ∧ Tr e s.H e' H') := by
  have hv := g.ev fx
  rw [hf] at hv
  generalize hx : a.eval fx = x at hv
  cases hv with
  | yl hid =>
    obtain ⟨f, tmps, asg, body, h1, h2⟩ := h e (args.toList.map a.eval) g.H g.N (by simp) (g.evs args.toList)
    refine ⟨f, tmps, asg, body, ?_, h2⟩
    have hargs : (#[] : Array Value) ++ args.map a.eval = (args.toList.map a.eval).toArray := by apply Array.ext'; simp
    simp only [execOp, ho, resolve, Deferred.ofValue, hx, Sem.run_bind, Sem.run_pure, Result.andThen_ok, invoke, hargs]
    exact h1

theorem cop_semAt {An : Ann} {o : Oper} {ao : AOp} (hc : cop P An o = some ao) (r : Option Nat) (ρ : Operand → Value) : o.semAt r ρ = execOp ρ o :=
  Oper.semAt_eq r ρ o fun c hd => by simp [cop, hd] at hc

/-- One operation. -/
theorem awpDo_sound {r : Option Nat} {An : Ann} {o : Oper} {ao : AOp} {gd : Option (Nat × Bool)} (hc : cop P An o = some ao) (hd : ∀ d, o.dst = some d → d < n) {K : St → Prop} {s : St} {e e0 : Env} {H0 : AHeap} {a : Act}
    (h : awpDo P ⟨o.dst, ao, gd⟩ K s) (g : Gam e n s a) (hdef : Marks e0 e s.H a.defers) (ht : Tr e0 H0 e s.H) {Q : Exit → Act → World → Prop} : o.wpIn (FnR r) 0 P a e.w (Nx n e0 H0 K) Q := by
  refine ⟨fun _ _ => trivial, ?_⟩
  rw [cop_semAt hc]
  -- behind a step
  have behind : ∀ {e' : Env} {H' : AHeap} {av : AV} {v : Value}, Tr e s.H e' H' → HRep e' H' → Rep e' av v → K (s.upd o.dst av H' e'.N) → Nx n e0 H0 K (a.put o.dst v) e'.w := fun {e'} {H'} {av} {v} htr hH hr hq => by
    have hHe : (s.upd o.dst av H' e'.N).H = H' := by unfold St.upd St.put; cases o.dst <;> rfl
    refine ⟨e', _, rfl, hq, (g.move htr.ext hH).put hd hr, ?_, by rw [hHe]; exact ht.trans htr⟩
    have hdf : (a.put o.dst v).defers = a.defers := by cases o.dst <;> rfl
    rw [hdf, hHe]
    exact hdef.tr htr
  by_cases hcall : ∃ fx args, ao = .call fx args
  · obtain ⟨fx, args, rfl⟩ := hcall
    simp only [awpDo] at h
    obtain ⟨fo, args', at_, ho, rfl, rfl⟩ := cop_call1 hc
    cases hf : s.ev (cX fo) with
    | fn fk first capt =>
      cases fk with
      | func f =>
        simp only [hf, CallV] at h
        obtain ⟨vs, h1, h2, h3⟩ := callee_run g ho hf h.1
        rw [h1]
        refine ⟨fun hx => (by cases hx), ?_⟩
        have key : CallsIn (FnR r) (0 - 1) P f vs.toArray e.w _ := callsIn_wide (n := 0).2 (h.2 e vs g.H g.N h2 h3)
        refine key.mono ?_
        rintro x w' ⟨v, e', r, H', rfl, rfl, hq, hr, hH, htr⟩
        exact behind htr hH hr hq
      | _ => rw [hf] at h; exact h.elim
    | yl id =>
      simp only [hf, CallV] at h
      obtain ⟨f, tmps, asg, body, h1, h2⟩ := callee_run_y g ho hf h
      rw [h1]
      refine ⟨fun hx => (by cases hx), ?_⟩
      have key : RoundIn (FnR r) (0 - 1) P (e.ρ id).1 f tmps asg body e.w _ := h2
      refine key.mono ?_
      rintro x w' ⟨v, e', r, H', rfl, rfl, hq, hr, hH, htr⟩
      exact behind htr hH hr hq
    | _ => rw [hf] at h; exact h.elim
  by_cases hkcall : ∃ fx args, ao = .kcall fx args
  · obtain ⟨fx, args, rfl⟩ := hkcall
    simp only [awpDo] at h
    obtain ⟨fo, args', at_, ho, rfl, rfl⟩ := cop_call3 hc
    split at h
    · rename_i f first capt hf
      obtain ⟨vs, h1, h2, h3⟩ := callee_run g ho hf h.1
      rw [h1]
      refine ⟨fun hx => (by cases hx), ?_⟩
      have key : CallsIn (FnR r) (0 - 1) P f vs.toArray e.w _ := callsIn_wide (n := 0).2 (h.2 e vs g.H g.N h2 h3)
      refine key.mono ?_
      rintro x w' ⟨v, e', r, H', rfl, rfl, ⟨_, hq⟩, hr, hH, htr⟩
      exact behind htr hH hr hq
    · exact h.elim
    · exact h.elim
  by_cases hpcall : ∃ fx args, ao = .pcall fx args
  · obtain ⟨fx, args, rfl⟩ := hpcall
    simp only [awpDo] at h
    obtain ⟨fo, args', at_, ho, rfl, rfl⟩ := cop_call2 hc
    split at h
    · rename_i f first capt hf
      obtain ⟨r', hp, hk⟩ := h
      obtain ⟨vs, h1, h2, h3⟩ := callee_run g ho hf hp.1
      rw [h1]
      refine ⟨fun hx => (by cases hx), ?_⟩
      have key : CallsIn (FnR r) (0 - 1) P f vs.toArray e.w _ := callsIn_wide (n := 0).2 (hp.2 e vs ⟨g.H.imm, g.H.gl⟩ h2 h3)
      refine key.mono ?_
      rintro x w' ⟨v, e', rfl, rfl, hr, htr⟩
      have hup : s.upd o.dst r' s.H e'.N = s.put o.dst r' := by
        rw [htr.N, g.N]
        unfold St.upd; cases o.dst <;> rfl
      exact behind (htr.tr g.H) (htr.hrep g.H) hr (by rw [hup]; exact hk)
    · exact h.elim
    · exact h.elim
  · have h' : match aop ao s with | some (v, H', N') => K (s.upd o.dst v H' N') | none => False := by
      unfold awpDo at h
      simp only at h
      split at h
      · exact absurd ⟨_, _, rfl⟩ hcall
      · exact absurd ⟨_, _, rfl⟩ hkcall
      · exact absurd ⟨_, _, rfl⟩ hpcall
      · exact h
    split at h'
    · rename_i v H' N' hop
      obtain ⟨nx, rv, e', h1, h2, h3, h4, h5, h6⟩ := aop_sound hc g hop
      have key : Nx n e0 H0 K (a.put o.dst rv) e'.w := behind h6 h4 h3 (by rw [h5]; exact h')
      rw [h1]
      rcases h2 with rfl | ⟨rfl, rfl⟩
      · exact key
      · exact key
    · exact h'.elim

theorem awpDo_soundB {r : Option Nat} {An : Ann} {o : Oper} {gd : Option (Nat × Bool)} (hd : ∀ d, o.dst = some d → d < n) {K : St → Prop} {s : St} {e e0 : Env} {H0 : AHeap} {a : Act}
    (h : awpDo P ⟨o.dst, copB P An o, gd⟩ K s) (g : Gam e n s a) (hdef : Marks e0 e s.H a.defers) (ht : Tr e0 H0 e s.H) {Q : Exit → Act → World → Prop} : o.wpIn (FnR r) 0 P a e.w (Nx n e0 H0 K) Q := by
  cases hc : cop P An o with
  | none => unfold copB at h; rw [hc] at h; exact h.elim
  | some ao => unfold copB at h; rw [hc] at h; exact awpDo_sound hc hd h g hdef ht

theorem Marks.put {e0 e : Env} {H : AHeap} {a : Act} (h : Marks e0 e H a.defers) (d : Option Nat) (v : Value) : Marks e0 e H (a.put d v).defers := by
  cases d <;> exact h

theorem awpOps_sound {r : Option Nat} {An : Ann} {ops : Array Oper} {K : St → Prop} {e0 : Env} {H0 : AHeap} {Q : Exit → Act → World → Prop} (hQ : ∀ a w, Nx n e0 H0 K a w → Q .normal a w) :
    ∀ (l : List Oper) (al : List AOper) (s : St) (e : Env) (a : Act), l.mapM (coper P An n ops) = some al → awpOps P al K s → Gam e n s a → Marks e0 e s.H a.defers → Tr e0 H0 e s.H → wpListIn (FnR r) 0 P ops Q l a e.w
  | [], al, s, e, a, hc, h, g, hdef, ht => by
    simp at hc
    subst hc
    exact hQ _ _ ⟨e, s, rfl, h, g, hdef, ht⟩
  | o :: l, al, s, e, a, hc, h, g, hdef, ht => by
    simp only [List.mapM_cons, Option.bind_eq_bind, Option.pure_def, Option.bind_eq_some_iff, Option.some.injEq] at hc
    obtain ⟨ao, hco, al', hcl, rfl⟩ := hc
    simp only [awpOps] at h
    unfold coper at hco
    split at hco
    · rename_i hdst
      have hd := dstOk_lt hdst
      have run : ∀ gd, awpDo P ⟨o.dst, copB P An o, gd⟩ (awpOps P al' K) s → o.wpIn (FnR r) 0 P a e.w (wpListIn (FnR r) 0 P ops Q l) Q := fun gd hdo =>
        Oper.wpIn_mono (fun a' w' hn => by
          obtain ⟨e', s', rfl, h1, h2, h3, h4⟩ := hn
          exact awpOps_sound hQ l al' s' e' a' hcl h1 h2 h3 h4) (awpDo_soundB hd hdo g hdef ht)
      split at hco
      · rename_i hgd
        cases hco
        simp only [awpOp] at h
        unfold wpListIn
        rw [if_pos (by simp [Region.wanted, hgd])]
        exact run _ h
      · rename_i j w hgd
        split at hco
        · rename_i t htt
          cases hco
          simp only [awpOp] at h
          obtain ⟨b, h1, h2, h3⟩ := h
          have hw := gate_run g hgd htt h1
          unfold wpListIn
          rw [hw]
          cases b with
          | true => rw [if_pos rfl]; exact run _ (h2 rfl)
          | false =>
            rw [if_neg (by simp)]
            have hH : (s.put o.dst (.lit undef)).H = s.H := by unfold St.put; cases o.dst <;> rfl
            refine ⟨fun _ _ => trivial, awpOps_sound hQ l al' _ e _ hcl (h3 rfl) (g.put hd (.lit undef)) ?_ ?_⟩
            · rw [hH]; exact hdef.put _ _
            · rw [hH]; exact ht
        · cases hco
    · cases hco

end
end Go.Fw
