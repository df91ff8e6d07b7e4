/- Framework, part 10: append. -/
import Derived.Test.YtmgmgeijfkcglaaF9
namespace Go.Fw
set_option linter.unusedSimpArgs false
set_option linter.unusedVariables false
open Go
set_option linter.unusedSectionVars false
variable [Globals]

section
variable {P : Program} {e : Env} {H : AHeap}

theorem append_fits {t ty el : TypeId} {i : TypeInfo} (ht : P.underlying t = some (.slice el)) (hi : P.info? el = some i) {w w' : World} {base : Option Addr} {n cap m : Nat} {v : Value} {news : List Value}
    (hv : ∃ a c, v = .slice a m c) (hf : (Builtin.firstCells i.size m v).run P w = .ok news.toArray w) (hroom : n + m ≤ cap)
    (hst : ∀ a, base = some a → (storeCells (a.add (n * i.size)) news).run P w = .ok () w') (hn : base = none → w' = w) :
    (Builtin.append_ #[t, t] ty #[.slice base n cap, v]).run P w = .ok (.slice base (n + m) cap) w' := by
  obtain ⟨a, c, rfl⟩ := hv
  cases base with
  | none =>
    rw [hn rfl]
    simp [Builtin.append_, run_underlying ht, sizeOf, typeInfo, hi, Builtin.lenOf, hroom, hf]
  | some b =>
    have := hst b rfl
    simp [Builtin.append_, run_underlying ht, sizeOf, typeInfo, hi, Builtin.lenOf, hroom, hf, this]

theorem append_grows {t ty el : TypeId} {i : TypeInfo} {z : Value} (ht : P.underlying t = some (.slice el)) (hi : P.info? el = some i) (hz : i.zero = some z) {w : World} {base : Option Addr} {n cap m : Nat} {v : Value} {olds news : List Value}
    (hv : ∃ a c, v = .slice a m c) (hf : (Builtin.firstCells i.size m v).run P w.drew = .ok news.toArray w.drew) (hfo : (Builtin.firstCells i.size n (.slice base n cap)).run P w.drew = .ok olds.toArray w.drew)
    (hg : cap < n + m) (h63 : n + m ≤ 9223372036854775807) (hb : (n + m) * i.bytes ≤ 140737488355328) :
    (Builtin.append_ #[t, t] ty #[.slice base n cap, v]).run P w = .ok (.slice (some ⟨w.heap.size, 0, none⟩) (n + m) (grownCap w (n + m) cap el))
      (w.drew.alloc (.cells (olds ++ news ++ (Builtin.zeroCells z.cells (grownCap w (n + m) cap el - (n + m))).toList).toArray el)) := by
  obtain ⟨a, c, rfl⟩ := hv
  have hn : ¬ (n + m ≤ cap) := by omega
  have h63' : ¬ (9223372036854775807 < ((n : Int) + (m : Int))) := by omega
  have hfit := growslice_fits hg hb
  have h48' : ¬ (281474976710656 < Builtin.nextslicecap (n + m) cap * i.bytes) := by omega
  simp [Builtin.append_, run_underlying ht, sizeOf, typeInfo, zeroValue, hi, hz, Builtin.lenOf, hn, h63', h48', Question.forced, hf, hfo, newRow, grownCap]
  congr 2
  apply Array.ext'
  simp [List.append_assoc]

/-- The bound under which a slice may grow. -/
def lim : Nat := 140737488355328

/-- 'append'. 'fz': nobody writes the answer any more. -/
def aappend (fz : Bool) (sz bytes : Nat) (H : AHeap) (N : Nat) (x y : AV) : Option (AV × AHeap × Nat) :=
  match asrc H sz y with
  | none => none
  | some (news, m) =>
    match x with
    | .sl .nil sz' [] =>
      if m = 0 then some (.sl .nil sz' [], H, N)
      else if m * bytes ≤ lim ∧ m ≤ 9223372036854775807 then (if fz = true then some (.sl .any sz (chunks sz m news), H, N) else some (.ms N 0 m sz, H.set N (.blk news), N + 1)) else none
    | .sl .exact sz' es =>
      if m = 0 then some (.sl .exact sz' es, H, N)
      else if (sz' = sz ∨ es = []) ∧ (es.length + m) * bytes ≤ lim ∧ es.length + m ≤ 9223372036854775807 then
        (if fz = true then some (.sl .any sz (chunks sz (es.length + m) (es.flatten ++ news)), H, N) else some (.ms N 0 (es.length + m) sz, H.set N (.blk (es.flatten ++ news)), N + 1)) else none
    | .ms id off len sz' =>
      match H id with
      | some (.blk cs) =>
        if sz' = sz ∧ off + len * sz ≤ cs.length ∧ (len + m) * bytes ≤ lim ∧ len + m ≤ 9223372036854775807 then
          some (.ms N 0 (len + m) sz, (H.del id).set N (.blk ((cs.drop off).take (len * sz) ++ news)), N + 1) else none
      | _ => none
    | _ => none

theorem RelC.memAt_new {cs : List AV} {us rest : List Value} (hH : HRep e H) (t : TypeId) (h : RelC e cs us) :
    HRep (e.allocI (.cells (us ++ rest).toArray t)) H ∧ Tr e H (e.allocI (.cells (us ++ rest).toArray t)) H ∧ MemAt (e.allocI (.cells (us ++ rest).toArray t)) e.w.heap.size 0 cs :=
  ⟨hrep_allocI hH _, tr_allocI hH _, memAt_allocI hH t h⟩

/-- The new memory of an append, written or not. -/
theorem grown_new (fz : Bool) (hH : HRep e H) {el : TypeId} {cs : List AV} {us rest : List Value} {sz n cap : Nat} (hr : RelC e cs us) (hl : cs.length = n * sz) (hcap : n ≤ cap) (hrest : us.length + rest.length = cap * sz) :
    ∃ e', e'.w = e.w.drew.alloc (.cells (us ++ rest).toArray el) ∧
      (if fz = true then Rep e' (.sl .any sz (chunks sz n cs)) (.slice (some ⟨e.w.heap.size, 0, none⟩) n cap) ∧ HRep e' H ∧ e'.N = e.N ∧ Tr e H e' H
       else Rep e' (.ms e.N 0 n sz) (.slice (some ⟨e.w.heap.size, 0, none⟩) n cap) ∧ HRep e' (H.set e.N (.blk cs)) ∧ e'.N = e.N + 1 ∧ Tr e H e' (H.set e.N (.blk cs))) := by
  have hH' := hrep_drew hH
  have hr' : RelC e.drew cs us := hr.ext (ext_drew e)
  cases fz with
  | true =>
    obtain ⟨h1, h2, h3⟩ := hr'.memAt_new (rest := rest) hH' el
    refine ⟨e.drew.allocI (.cells (us ++ rest).toArray el), rfl, ?_⟩
    rw [if_pos rfl]
    refine ⟨rep_chunks (by simp) ?_ hcap (by simp) (by omega) h3, h1, rfl, (tr_drew e H).trans h2⟩
    exact .inr rfl
  | false =>
    obtain ⟨h1, h2⟩ := new_obj hH' el (rest := rest) hr'.1 hr'.2
    refine ⟨e.drew.allocO (.cells (us ++ rest).toArray el), rfl, ?_⟩
    rw [if_neg (by simp)]
    refine ⟨?_, h1, rfl, (tr_drew e H).trans h2⟩
    exact rep_new_ms (e := e.drew) el hcap (by simp; omega)

theorem aappend_run {fz : Bool} (hH : HRep e H) {t ty el : TypeId} (ht : P.underlying t = some (.slice el)) {ti : TypeInfo} (hi : P.info? el = some ti) {z : Value} (hz : ti.zero = some z) (hzs : z.cells.size = ti.size)
    {x y r : AV} {H' : AHeap} {N' : Nat} {vx vy : Value} (h : aappend fz ti.size ti.bytes H e.N x y = some (r, H', N')) (hx : Rep e x vx) (hy : Rep e y vy) :
    ∃ u e', (Builtin.append_ #[t, t] ty #[vx, vy]).run P e.w = .ok u e'.w ∧ Rep e' r u ∧ HRep e' H' ∧ e'.N = N' ∧ Tr e H e' H' := by
  unfold aappend at h
  split at h
  · cases h
  rename_i news m hsrc
  obtain ⟨us, hus, hul, hv, huslen, hfirst⟩ := asrc_run (P := P) hH hsrc hy
  have hge : ∀ (need old : Nat), need ≤ grownCap e.w need old el := fun need old => grownCap_ge e.w need old el
  have hzl : ∀ k, (Builtin.zeroCells z.cells k).toList.length = k * ti.size := fun k => by simp [Builtin.zeroCells, hzs]
  -- what a growing append leaves
  have grow : ∀ (fz : Bool) {n cap : Nat} {base : Option Addr} {ocs : List AV} {olds : List Value}, RelC e ocs olds → ocs.length = n * ti.size →
      (Builtin.firstCells ti.size n (.slice base n cap)).run P e.w.drew = .ok olds.toArray e.w.drew → cap < n + m → n + m ≤ 9223372036854775807 → (n + m) * ti.bytes ≤ lim →
      ∃ u e', (Builtin.append_ #[t, t] ty #[.slice base n cap, vy]).run P e.w = .ok u e'.w ∧
        (if fz = true then Rep e' (.sl .any ti.size (chunks ti.size (n + m) (ocs ++ news))) u ∧ HRep e' H ∧ e'.N = e.N ∧ Tr e H e' H
         else Rep e' (.ms e.N 0 (n + m) ti.size) u ∧ HRep e' (H.set e.N (.blk (ocs ++ news))) ∧ e'.N = e.N + 1 ∧ Tr e H e' (H.set e.N (.blk (ocs ++ news)))) := by
    intro fz n cap base ocs olds hol hoc hfo hg h63 hb
    have hrun := append_grows (P := P) (ty := ty) ht hi hz hv (hfirst e.w.drew rfl) hfo hg h63 hb
    have hr : RelC e (ocs ++ news) (olds ++ us) := hol.append hus
    obtain ⟨e', he', hpost⟩ := grown_new (fz := fz) hH (el := el) (n := n + m) (cap := grownCap e.w (n + m) cap el) (sz := ti.size) (rest := (Builtin.zeroCells z.cells (grownCap e.w (n + m) cap el - (n + m))).toList) hr
      (by rw [List.length_append, hoc, hul, Nat.add_mul]) (hge _ _) (by
        rw [List.length_append, hol.1, hoc, huslen, hzl, ← Nat.add_mul, ← Nat.add_mul]
        congr 1
        have := hge (n + m) cap
        omega)
    refine ⟨.slice (some ⟨e.w.heap.size, 0, none⟩) (n + m) (grownCap e.w (n + m) cap el), e', ?_, hpost⟩
    rw [hrun, he']
  split at h
  · -- nil
    rename_i sz'
    rcases rep_sl_inv hx with ⟨_, _, rfl⟩ | ⟨hk, _⟩ | ⟨hk, _⟩
    rotate_right
    · exact absurd rfl hk
    · split at h
      · rename_i hm0
        simp only [Option.some.injEq, Prod.mk.injEq] at h
        obtain ⟨rfl, rfl, rfl⟩ := h
        subst hm0
        refine ⟨_, e, append_fits (P := P) (w' := e.w) ht hi hv (hfirst e.w rfl) (Nat.le_refl _) (fun a ha => by cases ha) (fun _ => rfl), .slNil sz', hH, rfl, .refl e H⟩
      · split at h
        · rename_i hm0 hc
          obtain ⟨h1, h2⟩ := hc
          obtain ⟨u, e', hrun, hpost⟩ := grow fz (n := 0) (cap := 0) (base := none) (ocs := []) (olds := []) ⟨rfl, fun i a u ha => by simp at ha⟩ (by simp) (run_firstCells_none (P := P) _ _ _ _ _)
            (by omega) (by omega) (by simpa using h1)
          simp only [Nat.zero_add, List.nil_append] at hpost
          refine ⟨u, e', hrun, ?_⟩
          split at h
          · rename_i hfz
            rw [if_pos hfz] at hpost
            simp only [Option.some.injEq, Prod.mk.injEq] at h
            obtain ⟨rfl, rfl, rfl⟩ := h
            exact hpost
          · rename_i hfz
            rw [if_neg hfz] at hpost
            simp only [Option.some.injEq, Prod.mk.injEq] at h
            obtain ⟨rfl, rfl, rfl⟩ := h
            exact hpost
        · cases h
    · exact absurd rfl hk
  · -- exact
    rename_i sz' es
    rcases rep_sl_inv hx with ⟨hk, _⟩ | ⟨_, b, o, cap, rfl, hcap, hex, hI, hel, hm⟩ | ⟨_, rfl, ad, rfl⟩
    rotate_right
    · split at h
      · rename_i hm0
        simp only [Option.some.injEq, Prod.mk.injEq] at h
        obtain ⟨rfl, rfl, rfl⟩ := h
        subst hm0
        have hus0 : us = [] := List.eq_nil_of_length_eq_zero (by omega)
        subst hus0
        refine ⟨_, e, append_fits (P := P) (w' := e.w) ht hi hv (hfirst e.w rfl) (Nat.le_refl _) (fun a ha => rfl) (fun _ => rfl), hx, hH, rfl, .refl e H⟩
      · split at h
        · rename_i hm0 hc
          obtain ⟨h0, h1, h2⟩ := hc
          simp only [List.length_nil, Nat.zero_add] at h1 h2
          obtain ⟨u, e', hrun, hpost⟩ := grow fz (n := 0) (cap := 0) (base := some ad) (ocs := []) (olds := []) ⟨rfl, fun i a u ha => by simp at ha⟩ (by simp)
            (run_firstCells_some (P := P) e.w.drew ti.size 0 ad 0 0 [] (by simp) (fun j u hu => by simp at hu)) (by omega) (by omega) (by simpa using h1)
          refine ⟨u, e', hrun, ?_⟩
          simp only [List.length_nil, List.flatten_nil] at h
          split at h
          · rename_i hfz
            rw [if_pos hfz] at hpost
            simp only [Option.some.injEq, Prod.mk.injEq] at h
            obtain ⟨rfl, rfl, rfl⟩ := h
            exact hpost
          · rename_i hfz
            rw [if_neg hfz] at hpost
            simp only [Option.some.injEq, Prod.mk.injEq] at h
            obtain ⟨rfl, rfl, rfl⟩ := h
            exact hpost
        · cases h
    · cases hk
    · have hce : cap = es.length := hex rfl
      subst hce
      split at h
      · rename_i hm0
        simp only [Option.some.injEq, Prod.mk.injEq] at h
        obtain ⟨rfl, rfl, rfl⟩ := h
        subst hm0
        have hus0 : us = [] := List.eq_nil_of_length_eq_zero (by omega)
        subst hus0
        refine ⟨_, e, append_fits (P := P) (w' := e.w) ht hi hv (hfirst e.w rfl) (Nat.le_refl _) (fun a ha => rfl) (fun _ => rfl), hx, hH, rfl, .refl e H⟩
      · split at h
        · rename_i hm0 hc
          obtain ⟨h0, h1, h2⟩ := hc
          have hol : ∃ olds, RelC e es.flatten olds ∧ es.flatten.length = es.length * ti.size ∧ (Builtin.firstCells ti.size es.length (.slice (some ⟨b, o, none⟩) es.length es.length)).run P e.w.drew = .ok olds.toArray e.w.drew := by
            rcases h0 with rfl | rfl
            · obtain ⟨olds, g1, g2⟩ := src_of_mem (P := P) (e := e) (c := es.length) (length_flatten_eq hel) (flatten_memAt hel hm)
              exact ⟨olds, g1, length_flatten_eq hel, g2.2.2 e.w.drew rfl⟩
            · obtain ⟨olds, g1, g2⟩ := src_of_mem (P := P) (e := e) (sz := ti.size) (m := 0) (b := b) (o := o) (c := 0) (cs := []) (by simp) (fun j c hj => by simp at hj)
              exact ⟨olds, g1, by simp, g2.2.2 e.w.drew rfl⟩
          obtain ⟨olds, g1, g2, g3⟩ := hol
          obtain ⟨u, e', hrun, hpost⟩ := grow fz g1 g2 g3 (by omega) h2 h1
          refine ⟨u, e', hrun, ?_⟩
          split at h
          · rename_i hfz
            rw [if_pos hfz] at hpost
            simp only [Option.some.injEq, Prod.mk.injEq] at h
            obtain ⟨rfl, rfl, rfl⟩ := h
            exact hpost
          · rename_i hfz
            rw [if_neg hfz] at hpost
            simp only [Option.some.injEq, Prod.mk.injEq] at h
            obtain ⟨rfl, rfl, rfl⟩ := h
            exact hpost
        · cases h
  · -- an object
    rename_i id off len sz'
    split at h
    · rename_i cs hid
      split at h
      · rename_i hc
        obtain ⟨rfl, hle, hb, h63⟩ := hc
        simp only [Option.some.injEq, Prod.mk.injEq] at h
        obtain ⟨rfl, rfl, rfl⟩ := h
        obtain ⟨hN, ad, cap, hsp, rfl, hlen, hroom⟩ := rep_ms_inv hx
        have hne : id ≠ e.N := by omega
        have hdl : ((cs.drop off).take (len * ti.size)).length = len * ti.size := by simp; omega
        have hmo : MemAt e (e.ρ id).1 ((e.ρ id).2 + off) ((cs.drop off).take (len * ti.size)) := fun j c hj => by
          rw [List.getElem?_take] at hj
          split at hj
          · rw [List.getElem?_drop] at hj
            have := memAt_obj hH hid _ c hj
            rwa [Nat.add_assoc]
          · cases hj
        by_cases hfit : len + m ≤ cap
        · -- in place
          obtain ⟨_, hIn, c, ty0, hg, hbase, hcells⟩ := hH.at_ id _ hid
          rcases hroom with h0 | ⟨rfl, c', t', fz', hg', hrm⟩
          · subst h0
            obtain rfl : len = 0 := by omega
            obtain rfl : m = 0 := by omega
            have hus0 : us = [] := List.eq_nil_of_length_eq_zero (by omega)
            subst hus0
            have hnews0 : news = [] := List.eq_nil_of_length_eq_zero (by omega)
            subst hnews0
            have hob : ORep (e.again (e.ρ id).1 ((e.ρ id).2 + off)) (e.ρ id).1 ((e.ρ id).2 + off) (.blk ((cs.drop off).take (0 * ti.size) ++ [])) :=
              ⟨c, ty0, hg, by simp; omega, fun j a hj => by simp at hj⟩
            refine ⟨_, e.again (e.ρ id).1 ((e.ρ id).2 + off), append_fits (P := P) (w' := e.w) ht hi hv (hfirst e.w rfl) (Nat.le_refl _) (fun a ha => rfl) (fun h => by cases h), ?_, hrep_again hH hid _ hob, rfl, tr_again hH _ hid _⟩
            exact .ms (Nat.lt_succ_self _) (Nat.le_refl _) (.inl rfl)
          · rw [hg] at hg'
            cases hg'
            have hmul : (len + m) * ti.size ≤ cap * ti.size := Nat.mul_le_mul_right _ hfit
            have hone : ∀ u ∈ us, u.oneCell' = true := fun u hu => by
              obtain ⟨i, hi', rfl⟩ := List.getElem_of_mem hu
              have hi2 : i < news.length := by have := hus.1; omega
              exact (hus.2 i news[i] us[i] (by simp [hi2]) (by simp [hi'])).1
            rw [Nat.add_mul] at hmul
            have hst := run_storeCells_at P (e.ρ id).1 ((e.ρ id).2 + off + len * ti.size) ty0 us 0 c e.w hg (by simp; omega) hone
            simp only [Nat.add_zero] at hst
            let c2 := (c.toList.take ((e.ρ id).2 + off + len * ti.size) ++ us ++ c.toList.drop ((e.ρ id).2 + off + len * ti.size + us.length)).toArray
            have hs2 : c2.size = c.size := by
              simp only [c2, List.size_toArray, List.length_append, List.length_take, List.length_drop, Array.length_toList]
              omega
            have x1 : Ext e (e.setRow (e.ρ id).1 c2) := ext_setRow hg hs2 hIn
            -- the object in the written row
            have hcell2 : ∀ (j : Nat) (a : AV), ((cs.drop off).take (len * ti.size) ++ news)[j]? = some a → ∃ u, c2[(e.ρ id).2 + off + j]? = some u ∧ u.oneCell' = true ∧ Rep e a u := fun j a hj => by
              by_cases h1 : j < len * ti.size
              · rw [List.getElem?_append_left (by omega), List.getElem?_take, if_pos h1, List.getElem?_drop] at hj
                obtain ⟨u, h2, h3, h4⟩ := hcells _ a hj
                refine ⟨u, ?_, h3, h4⟩
                simp only [c2, List.getElem?_toArray]
                rw [List.append_assoc, List.getElem?_append_left (by simp; omega), List.getElem?_take, if_pos (by omega)]
                rw [Nat.add_assoc]
                simpa using h2
              · rw [List.getElem?_append_right (by omega), hdl] at hj
                have hjl : j - len * ti.size < us.length := by have := (List.getElem?_eq_some_iff.1 hj).1; have := hus.1; omega
                obtain ⟨h2, h3⟩ := hus.2 _ a us[j - len * ti.size] hj (by simp [hjl])
                refine ⟨us[j - len * ti.size], ?_, h2, h3⟩
                simp only [c2, List.getElem?_toArray]
                have htl : (c.toList.take ((e.ρ id).2 + off + len * ti.size)).length = (e.ρ id).2 + off + len * ti.size := by simp; omega
                rw [List.append_assoc, List.getElem?_append_right (by omega), htl, List.getElem?_append_left (by omega)]
                rw [show (e.ρ id).2 + off + j - ((e.ρ id).2 + off + len * ti.size) = j - len * ti.size by omega]
                simp [hjl]
            have hnl : news.length = m * ti.size := hul
            -- first the row, as the elder object is then given up
            have hob1 : ORep (e.setRow (e.ρ id).1 c2) (e.ρ id).1 (e.ρ id).2 (.blk []) := ⟨c2, ty0, setRow_heap _ _ _ _ _ _ hg, by rw [hs2]; simp; omega, fun j a hj => by simp at hj⟩
            have hH1 := hrep_setRow hH hid hg hs2 hob1
            have ht1 := tr_setRow hH (.blk []) hid hg hs2
            have hid1 : (H.set id (.blk [])) id = some (.blk []) := by simp [AHeap.set]
            have hob2 : ORep ((e.setRow (e.ρ id).1 c2).again (e.ρ id).1 ((e.ρ id).2 + off)) (e.ρ id).1 ((e.ρ id).2 + off) (.blk ((cs.drop off).take (len * ti.size) ++ news)) := by
              refine ⟨c2, ty0, setRow_heap _ _ _ _ _ _ hg, ?_, fun j a hj => ?_⟩
              · rw [hs2, List.length_append, hdl, hnl]; omega
              · obtain ⟨u, h2, h3, h4⟩ := hcell2 j a hj
                exact ⟨u, h2, h3, (h4.ext x1).ext (ext_again _ _ _)⟩
            have hH2 := hrep_again hH1 hid1 _ hob2
            have ht2 := tr_again hH1 (.blk ((cs.drop off).take (len * ti.size) ++ news)) hid1 ((e.ρ id).2 + off)
            have hdd : (H.set id (.blk [])).del id = H.del id := by
              funext i
              simp only [AHeap.set, AHeap.del]
              split <;> rfl
            rw [hdd] at hH2 ht2
            refine ⟨.slice (some ⟨(e.ρ id).1, (e.ρ id).2 + off, none⟩) (len + m) cap, _, append_fits (P := P) (w' := e.w.setRow (e.ρ id).1 c2) ht hi hv (hfirst e.w rfl) hfit (fun a ha => ?_) (fun h => by cases h), ?_, hH2, rfl, ht1.trans ht2⟩
            · cases ha
              rw [addr_add]
              exact hst
            · refine .ms (Nat.lt_succ_self _) hfit (.inr ⟨?_, c2, ty0, (0, 0), ?_, ?_⟩)
              · simp [Env.again, Env.setRow]
              · simp only [Env.again, Env.setRow, if_true]; exact setRow_heap _ _ _ _ _ _ hg
              · simp only [Env.again, Env.setRow, if_true]; rw [hs2]; simpa using hrm
        · -- it grows
          obtain ⟨olds, g1, g2⟩ : ∃ olds, RelC e ((cs.drop off).take (len * ti.size)) olds ∧ (Builtin.firstCells ti.size len (.slice (some ad) len cap)).run P e.w.drew = .ok olds.toArray e.w.drew := by
            rcases hroom with h0 | ⟨rfl, _⟩
            · obtain rfl : len = 0 := by omega
              refine ⟨[], ⟨by simp, fun i a u ha => by simp at ha⟩, ?_⟩
              exact run_firstCells_some (P := P) e.w.drew ti.size 0 ad 0 cap [] (by simp) (fun j u hu => by simp at hu)
            · obtain ⟨olds, k1, k2⟩ := src_of_mem (P := P) (e := e) (c := cap) hdl hmo
              exact ⟨olds, k1, k2.2.2 e.w.drew rfl⟩
          obtain ⟨u, e', hrun, hpost⟩ := grow false g1 hdl g2 (by omega) h63 hb
          rw [if_neg (by simp)] at hpost
          obtain ⟨p1, p2, p3, p4⟩ := hpost
          refine ⟨u, e', hrun, p1, ?_, p3, ?_⟩
          · rw [← del_set hne]; exact hrep_del p2 id
          · rw [← del_set hne]; exact tr_del p4 id
      · cases h
    · cases h
  · cases h

end
end Go.Fw
