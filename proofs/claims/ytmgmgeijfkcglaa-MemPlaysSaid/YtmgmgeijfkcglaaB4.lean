/- The reference's memory, in the heap: contracts of at, Get, Set, Take, Give, Holder. -/
import Derived.Test.YtmgmgeijfkcglaaB1
namespace Go.Proofs.Ytmgmgeijfkcglaa
set_option linter.unusedSimpArgs false
set_option linter.unusedVariables false
open Go Go.Fw
attribute [local simp] Value.oneCell' anil aidxs noHeap_or set_or

/-- A slice of one-cell elements that is one's own. -/
def SlAt (H : AHeap) (v : AV) (es : List AV) (id : Nat) : Prop := (v = .ms id 0 es.length 1 ∧ H id = some (.blk es)) ∨ (es = [] ∧ v = .sl .exact 1 [])
theorem SlAt.len {H : AHeap} {v : AV} {es : List AV} {id : Nat} (h : SlAt H v es id) : alen 1 v = some (es.length : Int) := by
  rcases h with ⟨rfl, _⟩ | ⟨rfl, rfl⟩ <;> rfl
theorem SlAt.cells {H : AHeap} {v : AV} {es : List AV} {id : Nat} (h : SlAt H v es id) : v.cells = some [v] := by
  rcases h with ⟨rfl, _⟩ | ⟨rfl, rfl⟩ <;> rfl
theorem SlAt.at_ {H : AHeap} {v : AV} {es : List AV} {id : Nat} (h : SlAt H v es id) {i : Nat} (hi : i < es.length) : aindex 1 v (i64 i) = some (.mp id i) ∧ H id = some (.blk es) := by
  rcases h with ⟨rfl, h⟩ | ⟨rfl, rfl⟩
  · exact ⟨by simp [aindex, hi], h⟩
  · simp at hi
theorem SlAt.keep {H H' : AHeap} {v : AV} {es : List AV} {id : Nat} (h : SlAt H v es id) (hk : H' id = H id) : SlAt H' v es id := h.imp (fun ⟨a, b⟩ => ⟨a, hk.trans b⟩) (fun h => h)
theorem SlAt.set {H : AHeap} {v : AV} {es : List AV} {id : Nat} (h : SlAt H v es id) (x : AV) (i : Nat) : SlAt (H.set id (.blk (es.set i x))) v (es.set i x) id := by
  rcases h with ⟨rfl, h⟩ | ⟨rfl, rfl⟩
  · exact .inl ⟨by simp, by simp [AHeap.set]⟩
  · exact .inr ⟨by simp, rfl⟩
theorem SlAt.src {H : AHeap} {v : AV} {es : List AV} {id : Nat} (h : SlAt H v es id) : asrc H 1 v = some (es, es.length) := by
  rcases h with ⟨rfl, h⟩ | ⟨rfl, rfl⟩
  · simp only [asrc, h]
    rw [if_pos ⟨trivial, by omega⟩]
    simp
  · simp [asrc]
def blC (l : List Bool) : List AV := l.map bl
def inC (l : List Int) : List AV := l.map fun n => i64 n
theorem blC_len (l : List Bool) : (blC l).length = l.length := by simp [blC]
theorem inC_len (l : List Int) : (inC l).length = l.length := by simp [inC]

/-- A memory of the reference, in the heap. -/
structure IsRef (H : AHeap) (x fid bid cid : Nat) (rids : List Nat) (rows : List (List Int)) (fv bv : AV) (fl : List Bool) (by_ : List Int) : Prop where
  hb : ∀ row ∈ rows, 1 ≤ row.length ∧ row.length ≤ 1024
  hn : rows.length < 1000000000
  hx : H x = some (.blk [if rids = [] then .sl .nil 0 [] else .ms cid 0 rids.length 1, fv, bv])
  hf : SlAt H fv (blC fl) fid
  hy : SlAt H bv (inC by_) bid
  hfl : by_.length = fl.length
  hc : rids ≠ [] → H cid = some (.blk (List.zipWith (fun rid row => .ms rid 0 (List.length row) 1) rids rows))
  hl : rids.length = rows.length
  hr : ∀ (i rid : Nat) (row : List Int), rids[i]? = some rid → rows[i]? = some row → H rid = some (.blk (row.map fun n => i64 n))
  nd : (x :: fid :: bid :: (if rids = [] then [] else cid :: rids)).Nodup

section
variable {H : AHeap} {x fid bid cid : Nat} {rids : List Nat} {rows : List (List Int)} {fv bv : AV} {fl : List Bool} {by_ : List Int}
theorem p_at (hM : IsRef H x fid bid cid rids rows fv bv fl by_) (a p : Int) (N : Nat) : ACall Try.prog 68 [.mp x 0, i64 a, i64 p] H N (fun r H' N' => r = i64 (cellErr rows a p) ∧ H' = H ∧ N' = N) := by
  refine acall mixed c_bobbinref08_Mem_at (by simp) ?_
  by_cases h0 : a < 0
  · simp [a_bobbinref08_Mem_at, nilOf, h0, cellErr]
  · obtain ⟨i, rfl⟩ : ∃ i : Nat, a = i := ⟨a.toNat, by omega⟩
    by_cases h1 : rids = []
    · have : rows = [] := by have := hM.hl; rw [h1] at this; exact List.eq_nil_of_length_eq_zero this.symm
      subst this
      have hx := hM.hx
      rw [if_pos h1] at hx
      simp [a_bobbinref08_Mem_at, nilOf, cellErr, hx, h0]
    · have hl := hM.hl
      have hx := hM.hx
      rw [if_neg h1, hl] at hx
      by_cases h2 : i < rids.length
      · have hcells : aindex 1 (.ms cid 0 rows.length 1) (i64 i) = some (.mp cid i) := by simp [aindex, show i < rows.length by omega]
        have h2' : i < rows.length := by omega
        have hrow : (List.zipWith (fun rid row => AV.ms rid 0 (List.length row) 1) rids rows)[i]? = some (.ms rids[i] 0 rows[i].length 1) := by
          simp [List.getElem?_zipWith, h2, h2']
        have hn1 : ¬ rows.length ≤ i := by omega
        by_cases h3 : p < 0
        · simp [a_bobbinref08_Mem_at, nilOf, cellErr, hx, h0, h2, h2', h3, hl, hn1]
        · obtain ⟨j, rfl⟩ : ∃ j : Nat, p = j := ⟨p.toNat, by omega⟩
          by_cases h4 : j < rows[i].length
          · have hn2 : ¬ rows[i].length ≤ j := by omega
            simp [a_bobbinref08_Mem_at, nilOf, cellErr, hx, h0, h2, h2', h3, hl, hn1, hn2, hcells, hM.hc h1, hrow]
          · have hn2 : rows[i].length ≤ j := by omega
            simp [a_bobbinref08_Mem_at, nilOf, cellErr, hx, h0, h2, h2', h3, hl, hn1, hn2, hcells, hM.hc h1, hrow]
      · have hn1 : rows.length ≤ i := by omega
        simp [a_bobbinref08_Mem_at, nilOf, cellErr, hx, h0, hl, hn1]
theorem ref_row (hM : IsRef H x fid bid cid rids rows fv bv fl by_) {a p : Int} (h : cellErr rows a p = 0) : ∃ i j rid row, a = (i : Nat) ∧ p = (j : Nat) ∧ rids[i]? = some rid ∧ rows[i]? = some row ∧ j < row.length ∧ rids.getD a.toNat 0 = rid ∧ rows.getD a.toNat [] = row ∧ H rid = some (.blk (row.map fun n => i64 n)) ∧
    H x = some (.blk [.ms cid 0 rows.length 1, fv, bv]) ∧ aindex 1 (.ms cid 0 rows.length 1) (i64 i) = some (.mp cid i) ∧ H cid = some (.blk (List.zipWith (fun rid row => .ms rid 0 (List.length row) 1) rids rows)) ∧ (List.zipWith (fun rid row => AV.ms rid 0 (List.length row) 1) rids rows)[i]? = some (.ms rid 0 row.length 1) ∧ aindex 1 (.ms rid 0 row.length 1) (i64 j) = some (.mp rid j) := by
  unfold cellErr at h
  split at h
  · cases h
  · split at h
    · cases h
    · rename_i h1 h2
      have hl := hM.hl
      obtain ⟨i, rfl⟩ : ∃ i : Nat, a = i := ⟨a.toNat, by omega⟩
      obtain ⟨j, rfl⟩ : ∃ j : Nat, p = j := ⟨p.toNat, by omega⟩
      have hi : i < rows.length := by omega
      have hi' : i < rids.length := by omega
      have hne : rids ≠ [] := by intro h; rw [h] at hi'; simp at hi'
      have hx := hM.hx
      rw [if_neg hne, hl] at hx
      simp [hi] at h2
      have hj : j < rows[i].length := by omega
      exact ⟨i, j, rids[i], rows[i], rfl, rfl, by simp [hi'], by simp [hi], hj, by simp [hi'], by simp [hi], hM.hr i _ _ (by simp [hi']) (by simp [hi]), hx, by simp [aindex, hi], hM.hc hne, by simp [List.getElem?_zipWith, hi, hi'], by simp [aindex, hj]⟩
theorem p_rGet (hM : IsRef H x fid bid cid rids rows fv bv fl by_) (a p : Int) (N : Nat) : ACall Try.prog 50 [.mp x 0, i64 a, i64 p] H N (fun r H' N' => r = .tup [i64 (cellAt rows a p), i64 (cellErr rows a p)] ∧ H' = H ∧ N' = N) := by
  refine acall mixed c_bobbinref08_Mem_Get (by simp) ?_
  simp [a_bobbinref08_Mem_Get]
  refine (p_at hM a p N).mono ?_
  rintro r H' N' ⟨rfl, rfl, rfl⟩
  by_cases h : cellErr rows a p = 0
  · obtain ⟨i, j, rid, row, rfl, rfl, h1, h2, h3, h4, h5, h6, h7, h8, h9, h10, h11⟩ := ref_row hM h
    simp [h, cellAt, h5, h6, nilOf, h7, h8, h9, h10, h11]
    simp [h2, h3]
  · simp [h, cellAt]
theorem isRef_set (hM : IsRef H x fid bid cid rids rows fv bv fl by_) {i j rid : Nat} {row : List Int} (h1 : rids[i]? = some rid) (h2 : rows[i]? = some row) (h3 : j < row.length) (v : Int) :
    IsRef (H.set rid (.blk ((row.map fun n => i64 n).set j (i64 v)))) x fid bid cid rids (rows.set i (row.set j v)) fv bv fl by_ := by
  have hne : rids ≠ [] := by intro h; rw [h] at h1; cases h1
  have hnd := hM.nd
  rw [if_neg hne] at hnd
  have hmem : rid ∈ rids := List.mem_of_getElem? h1
  have hm : x ≠ rid := by intro h; subst h; simp [hmem] at hnd
  have hf : fid ≠ rid := by intro h; subst h; simp [hmem] at hnd
  have hy : bid ≠ rid := by intro h; subst h; simp [hmem] at hnd
  have hc : cid ≠ rid := by intro h; subst h; simp [hmem] at hnd
  have hil : i < rows.length := (List.getElem?_eq_some_iff.1 h2).1
  refine ⟨fun z hz => ?_, by simpa using hM.hn, by simp [hm, hM.hx], hM.hf.keep (by simp [hf]), hM.hy.keep (by simp [hy]), hM.hfl, fun h => ?_, by simp [hM.hl], fun k rk rowk hk hrk => ?_, hM.nd⟩
  · rcases List.mem_or_eq_of_mem_set hz with hz | rfl
    · exact hM.hb z hz
    · simpa using hM.hb row (List.mem_of_getElem? h2)
  · simp only [set_at, if_neg hc, hM.hc h]
    congr 2
    apply List.ext_getElem?
    intro k
    simp only [List.getElem?_zipWith, List.getElem?_set]
    by_cases hik : i = k
    · subst hik; simp [hil, h1, (List.getElem?_eq_some_iff.1 h2).2]
    · simp [hik]
  · simp only [set_at]
    by_cases hik : i = k
    · subst hik
      rw [h1] at hk; cases hk
      simp [hil] at hrk
      subst hrk
      simp [List.map_set]
    · have : rk ≠ rid := by
        intro h; subst h
        have hnr : rids.Nodup := by simp at hnd; exact hnd.2.2.2.2
        have hi1 := (List.getElem?_eq_some_iff.1 h1)
        have hk1 := (List.getElem?_eq_some_iff.1 hk)
        exact hik ((List.getElem_inj hnr).1 (hi1.2.trans hk1.2.symm))
      simp only [List.getElem?_set, if_neg hik] at hrk
      rw [if_neg this]
      exact hM.hr k rk rowk hk hrk
theorem p_rSet (hM : IsRef H x fid bid cid rids rows fv bv fl by_) (a p v : Int) (N : Nat) : ACall Try.prog 47 [.mp x 0, i64 a, i64 p, i64 v] H N (fun r H' N' =>
    r = i64 (cellErr rows a p) ∧ IsRef H' x fid bid cid rids (setRows rows a p v) fv bv fl by_) := by
  refine acall mixed c_bobbinref08_Mem_Set (by simp) ?_
  simp [a_bobbinref08_Mem_Set]
  refine (p_at hM a p N).mono ?_
  rintro r H' N' ⟨rfl, rfl, rfl⟩
  by_cases h : cellErr rows a p = 0
  · obtain ⟨i, j, rid, row, rfl, rfl, h1, h2, h3, h4, h5, h6, h7, h8, h9, h10, h11⟩ := ref_row hM h
    have h5' : rows.getD i [] = row := by simpa using h5
    simp [h, setRows, h2, h6, nilOf, h7, h8, h9, h10, h11, show j + 1 ≤ row.length by omega]
    exact isRef_set hM h1 h2 h3 v
  · simp [h, setRows, hM]
theorem isRef_fl (hM : IsRef H x fid bid cid rids rows fv bv fl by_) (i : Nat) (b : Bool) : IsRef (H.set fid (.blk ((blC fl).set i (bl b)))) x fid bid cid rids rows fv bv (fl.set i b) by_ := by
  have hnd := hM.nd
  simp only [List.nodup_cons, List.mem_cons, not_or] at hnd
  obtain ⟨⟨n1, n2, n3⟩, ⟨n4, n5⟩, n6, n7⟩ := hnd
  have hm : ∀ r ∈ rids, r ≠ fid := fun r hr he => by
    have hne : rids ≠ [] := by intro h; rw [h] at hr; cases hr
    rw [if_neg hne] at n5
    exact n5 (by simp [← he, hr])
  have e : (blC fl).set i (bl b) = blC (fl.set i b) := by simp [blC, List.map_set]
  rw [e]
  refine ⟨hM.hb, hM.hn, by simp only [AHeap.set]; rw [if_neg n1, hM.hx], ?_, hM.hy.keep (by simp only [AHeap.set]; rw [if_neg (Ne.symm n4)]), by simp [hM.hfl], fun h => ?_, hM.hl, fun k rk rowk hk hrk => ?_, hM.nd⟩
  · have := hM.hf.set (bl b) i
    rwa [e] at this
  · rw [if_neg h] at n5
    simp only [AHeap.set]
    rw [if_neg (fun he => n5 (by simp [he])), hM.hc h]
  · simp only [AHeap.set]
    rw [if_neg (hm rk (List.mem_of_getElem? hk)), hM.hr k rk rowk hk hrk]
theorem isRef_by (hM : IsRef H x fid bid cid rids rows fv bv fl by_) (i : Nat) (n : Int) : IsRef (H.set bid (.blk ((inC by_).set i (i64 n)))) x fid bid cid rids rows fv bv fl (by_.set i n) := by
  have hnd := hM.nd
  simp only [List.nodup_cons, List.mem_cons, not_or] at hnd
  obtain ⟨⟨n1, n2, n3⟩, ⟨n4, n5⟩, n6, n7⟩ := hnd
  have hm : ∀ r ∈ rids, r ≠ bid := fun r hr he => by
    have hne : rids ≠ [] := by intro h; rw [h] at hr; cases hr
    rw [if_neg hne] at n6
    exact n6 (by simp [← he, hr])
  have e : (inC by_).set i (i64 n) = inC (by_.set i n) := by simp [inC, List.map_set]
  rw [e]
  refine ⟨hM.hb, hM.hn, by simp only [AHeap.set]; rw [if_neg n2, hM.hx], hM.hf.keep (by simp only [AHeap.set]; rw [if_neg n4]), ?_, by simp [hM.hfl], fun h => ?_, hM.hl, fun k rk rowk hk hrk => ?_, hM.nd⟩
  · have := hM.hy.set (i64 n) i
    rwa [e] at this
  · rw [if_neg h] at n6
    simp only [AHeap.set]
    rw [if_neg (fun he => n6 (by simp [he])), hM.hc h]
  · simp only [AHeap.set]
    rw [if_neg (hm rk (List.mem_of_getElem? hk)), hM.hr k rk rowk hk hrk]
theorem IsRef.ne (hM : IsRef H x fid bid cid rids rows fv bv fl by_) : x ≠ fid ∧ x ≠ bid ∧ fid ≠ bid := by
  have hnd := hM.nd
  simp only [List.nodup_cons, List.mem_cons, not_or] at hnd
  exact ⟨hnd.1.1, hnd.1.2.1, hnd.2.1.1⟩
def rErr (fl : List Bool) (l : Int) : Int := if l < 0 ∨ (fl.length : Int) ≤ l then 1 else 0
def rTake (fl : List Bool) (l : Int) : Int := if rErr fl l ≠ 0 then rErr fl l else if fl.getD l.toNat false = true then 6 else 0
theorem p_rTake (hM : IsRef H x fid bid cid rids rows fv bv fl by_) (l who : Int) (N : Nat) : ACall Try.prog 48 [.mp x 0, i64 l, i64 who] H N (fun r H' N' =>
    r = i64 (rTake fl l) ∧ IsRef H' x fid bid cid rids rows fv bv (if rTake fl l = 0 then fl.set l.toNat true else fl) (if rTake fl l = 0 then by_.set l.toNat who else by_)) := by
  refine acall mixed c_bobbinref08_Mem_Take (by simp) ?_
  have hx := hM.hx
  have hlen := hM.hf.len
  have hcf := hM.hf.cells
  have hcy := hM.hy.cells
  rw [blC_len] at hlen
  by_cases h0 : l < 0
  · simp [a_bobbinref08_Mem_Take, nilOf, h0, rTake, rErr, hM]
  · obtain ⟨i, rfl⟩ : ∃ i : Nat, l = i := ⟨l.toNat, by omega⟩
    by_cases h1 : fl.length ≤ i
    · have h1' : (fl.length : Int) ≤ i := by omega
      simp [a_bobbinref08_Mem_Take, nilOf, h0, rTake, rErr, hx, hlen, h1, h1', hM, -alen]
    · have h1' : ¬ (fl.length : Int) ≤ i := by omega
      have hi : i < fl.length := by omega
      obtain ⟨g1, g2⟩ := hM.hf.at_ (i := i) (by rw [blC_len]; exact hi)
      have g3 : (blC fl)[i]? = some (bl fl[i]) := by simp [blC, hi]
      cases hb : fl[i] with
      | true =>
        rw [hb] at g3
        simp [a_bobbinref08_Mem_Take, nilOf, h0, rTake, rErr, hx, hlen, h1, h1', g1, g2, g3, hi, hb, hM, -alen]
      | false =>
        rw [hb] at g3
        obtain ⟨k1, k2⟩ := hM.hy.at_ (i := i) (by rw [inC_len, hM.hfl]; exact hi)
        have hle : i + 1 ≤ (blC fl).length := by rw [blC_len]; omega
        have hle2 : i + 1 ≤ (inC by_).length := by rw [inC_len, hM.hfl]; omega
        obtain ⟨n1, n2, n3⟩ := hM.ne
        simp [a_bobbinref08_Mem_Take, nilOf, h0, rTake, rErr, hx, hlen, h1, h1', g1, g2, g3, hi, hb, k1, k2, hle, hle2, n1, n2, n3, Ne.symm n1, Ne.symm n2, Ne.symm n3, -alen]
        exact isRef_by (isRef_fl hM i true) i who
theorem p_rHolder (hM : IsRef H x fid bid cid rids rows fv bv fl by_) (l : Int) (N : Nat) : ACall Try.prog 51 [.mp x 0, i64 l] H N (fun r H' N' =>
    r = .tup [i64 (if rErr fl l = 0 ∧ fl.getD l.toNat false = true then by_.getD l.toNat 0 else 0), bl (decide (rErr fl l = 0 ∧ fl.getD l.toNat false = true))] ∧ H' = H ∧ N' = N) := by
  refine acall mixed c_bobbinref08_Mem_Holder (by simp) ?_
  have hx := hM.hx
  have hlen := hM.hf.len
  rw [blC_len] at hlen
  by_cases h0 : l < 0
  · simp [a_bobbinref08_Mem_Holder, nilOf, h0, rErr]
  · obtain ⟨i, rfl⟩ : ∃ i : Nat, l = i := ⟨l.toNat, by omega⟩
    by_cases h1 : fl.length ≤ i
    · have h1' : (fl.length : Int) ≤ i := by omega
      simp [a_bobbinref08_Mem_Holder, nilOf, h0, rErr, hx, hlen, h1, h1', -alen]
    · have h1' : ¬ (fl.length : Int) ≤ i := by omega
      have hi : i < fl.length := by omega
      obtain ⟨g1, g2⟩ := hM.hf.at_ (i := i) (by rw [blC_len]; exact hi)
      have g3 : (blC fl)[i]? = some (bl fl[i]) := by simp [blC, hi]
      cases hb : fl[i] with
      | false =>
        rw [hb] at g3
        simp [a_bobbinref08_Mem_Holder, nilOf, h0, rErr, hx, hlen, h1, h1', g1, g2, g3, hi, hb, -alen]
      | true =>
        rw [hb] at g3
        have hby : i < by_.length := by rw [hM.hfl]; exact hi
        obtain ⟨k1, k2⟩ := hM.hy.at_ (i := i) (by rw [inC_len]; exact hby)
        have k3 : (inC by_)[i]? = some (i64 by_[i]) := by simp [inC, hby]
        simp [a_bobbinref08_Mem_Holder, nilOf, h0, rErr, hx, hlen, h1, h1', g1, g2, g3, hi, hb, k1, k2, k3, hby, -alen]
def rGive (fl : List Bool) (by_ : List Int) (l who : Int) : Int := if rErr fl l ≠ 0 then rErr fl l else if fl.getD l.toNat false = true ∧ by_.getD l.toNat 0 = who then 0 else 69
theorem p_rGive (hM : IsRef H x fid bid cid rids rows fv bv fl by_) (l who : Int) (N : Nat) : ACall Try.prog 49 [.mp x 0, i64 l, i64 who] H N (fun r H' N' =>
    r = i64 (rGive fl by_ l who) ∧ IsRef H' x fid bid cid rids rows fv bv (if rGive fl by_ l who = 0 then fl.set l.toNat false else fl) (if rGive fl by_ l who = 0 then by_.set l.toNat 0 else by_)) := by
  refine acall mixed c_bobbinref08_Mem_Give (by simp) ?_
  have hx := hM.hx
  have hlen := hM.hf.len
  rw [blC_len] at hlen
  by_cases h0 : l < 0
  · simp [a_bobbinref08_Mem_Give, nilOf, h0, rGive, rErr, hM]
  · obtain ⟨i, rfl⟩ : ∃ i : Nat, l = i := ⟨l.toNat, by omega⟩
    by_cases h1 : fl.length ≤ i
    · have h1' : (fl.length : Int) ≤ i := by omega
      simp [a_bobbinref08_Mem_Give, nilOf, h0, rGive, rErr, hx, hlen, h1, h1', hM, -alen]
    · have h1' : ¬ (fl.length : Int) ≤ i := by omega
      have hi : i < fl.length := by omega
      obtain ⟨g1, g2⟩ := hM.hf.at_ (i := i) (by rw [blC_len]; exact hi)
      have g3 : (blC fl)[i]? = some (bl fl[i]) := by simp [blC, hi]
      cases hb : fl[i] with
      | false =>
        rw [hb] at g3
        simp [a_bobbinref08_Mem_Give, nilOf, h0, rGive, rErr, hx, hlen, h1, h1', g1, g2, g3, hi, hb, hM, -alen]
      | true =>
        rw [hb] at g3
        have hby : i < by_.length := by rw [hM.hfl]; exact hi
        obtain ⟨k1, k2⟩ := hM.hy.at_ (i := i) (by rw [inC_len]; exact hby)
        have k3 : (inC by_)[i]? = some (i64 by_[i]) := by simp [inC, hby]
        have hle : i + 1 ≤ (blC fl).length := by rw [blC_len]; omega
        have hle2 : i + 1 ≤ (inC by_).length := by rw [inC_len]; omega
        obtain ⟨n1, n2, n3⟩ := hM.ne
        by_cases hw : by_[i] = who
        · simp [a_bobbinref08_Mem_Give, nilOf, h0, rGive, rErr, hx, hlen, h1, h1', g1, g2, g3, hi, hb, k1, k2, k3, hby, hw, hle, hle2, n1, n2, n3, Ne.symm n1, Ne.symm n2, Ne.symm n3, -alen]
          exact isRef_by (isRef_fl hM i false) i 0
        · simp [a_bobbinref08_Mem_Give, nilOf, h0, rGive, rErr, hx, hlen, h1, h1', g1, g2, g3, hi, hb, k1, k2, k3, hby, hw, hM, -alen]

/-- Whether two are the same. -/
theorem p_rSame {x2 fid2 bid2 cid2 : Nat} {rids2 : List Nat} {rows2 : List (List Int)} {fv2 bv2 : AV} {fl2 : List Bool} {by2 : List Int} (hM : IsRef H x fid bid cid rids rows fv bv fl by_) (hM2 : IsRef H x2 fid2 bid2 cid2 rids2 rows2 fv2 bv2 fl2 by2)
    (hrl : rows.length = rows2.length) (hfl : fl.length = fl2.length) (hlen : fl.length ≤ 1000) (hrr : ∀ i, ((rows.getD i []).length = (rows2.getD i []).length)) (N : Nat) :
    ACall Try.prog 33 [.mp x 0, .mp x2 0] H N (fun r H' N' => r = bl (decide (rows = rows2) && (decide (fl = fl2) && decide (by_ = by2))) ∧ H' = H ∧ N' = N) := by
  have hx := hM.hx
  have hx2 := hM2.hx
  have hn := hM.hn
  have hll := hM.hl
  have hll2 := hM2.hl
  have hlf := hM.hf.len
  have hlf2 := hM2.hf.len
  have hly := hM.hy.len
  have hly2 := hM2.hy.len
  have hfy := hM.hfl
  have hfy2 := hM2.hfl
  rw [blC_len] at hlf hlf2
  have cl : ∀ (r : List Nat) (c : Nat), alen 1 (if r = [] then .sl .nil 0 [] else .ms c 0 r.length 1) = some (r.length : Int) := fun r c => by
    split
    · rename_i h; rw [h]; rfl
    · rfl
  obtain ⟨v1, hv1⟩ : ∃ v, (if rids = [] then (.sl .nil 0 [] : AV) else .ms cid 0 rids.length 1) = v := ⟨_, rfl⟩
  obtain ⟨v2, hv2⟩ : ∃ v, (if rids2 = [] then (.sl .nil 0 [] : AV) else .ms cid2 0 rids2.length 1) = v := ⟨_, rfl⟩
  have a1 := cl rids cid
  have a2 := cl rids2 cid2
  rw [hv1] at hx a1
  rw [hv2] at hx2 a2
  have hrids : rids.length = rids2.length := by omega
  rw [hll] at a1
  rw [hll2, ← hrl] at a2
  rw [← hfl] at hlf2
  -- a row's place
  have row1 : ∀ (i : Nat) (row : List Int), rows[i]? = some row → ∃ rid, aindex 1 v1 (i64 i) = some (.mp cid i) ∧ H cid = some (.blk (List.zipWith (fun rid row => .ms rid 0 (List.length row) 1) rids rows)) ∧ (List.zipWith (fun rid row => AV.ms rid 0 (List.length row) 1) rids rows)[i]? = some (.ms rid 0 row.length 1) ∧ H rid = some (.blk (row.map fun n => i64 n)) := fun i row hi => by
    have h1 := (List.getElem?_eq_some_iff.1 hi).1
    have h2 : i < rids.length := by omega
    have hne : rids ≠ [] := by intro h; rw [h] at h2; simp at h2
    rw [← hv1, if_neg hne]
    have he := (List.getElem?_eq_some_iff.1 hi).2
    exact ⟨rids[i], by simp [aindex, h2], hM.hc hne, by simp [List.getElem?_zipWith, h2, hi], hM.hr i _ _ (by simp [h2]) hi⟩
  have row2' : ∀ (i : Nat) (row : List Int), rows2[i]? = some row → ∃ rid, aindex 1 v2 (i64 i) = some (.mp cid2 i) ∧ H cid2 = some (.blk (List.zipWith (fun rid row => .ms rid 0 (List.length row) 1) rids2 rows2)) ∧ (List.zipWith (fun rid row => AV.ms rid 0 (List.length row) 1) rids2 rows2)[i]? = some (.ms rid 0 row.length 1) ∧ H rid = some (.blk (row.map fun n => i64 n)) := fun i row hi => by
    have h1 := (List.getElem?_eq_some_iff.1 hi).1
    have h2 : i < rids2.length := by omega
    have hne : rids2 ≠ [] := by intro h; rw [h] at h2; simp at h2
    rw [← hv2, if_neg hne]
    exact ⟨rids2[i], by simp [aindex, h2], hM2.hc hne, by simp [List.getElem?_zipWith, h2, hi], hM2.hr i _ _ (by simp [h2]) hi⟩
  obtain ⟨c1, e1⟩ : ∃ c, (.loop a_bobbinref08_Sameb1 : ACode) = c := ⟨_, rfl⟩
  obtain ⟨c2, e2⟩ : ∃ c, (.loop a_bobbinref08_Sameb2 : ACode) = c := ⟨_, rfl⟩
  obtain ⟨c3, e3⟩ : ∃ c, (.loop a_bobbinref08_Sameb3 : ACode) = c := ⟨_, rfl⟩
  refine acall mixed c_bobbinref08_Same (by simp) ?_
  unfold a_bobbinref08_Same
  rw [e1, e3]
  simp [nilOf, hx, hx2, a1, a2, hlf, hlf2, -alen]
  rw [← e3]
  have ext0 : ∀ {α : Type} {l m : List α}, l.length = m.length → (∀ j, j < l.length → l[j]? = m[j]?) → l = m := fun {α l m} h1 h2 => List.ext_getElem? fun j => by
    by_cases hj : j < l.length
    · exact h2 j hj
    · rw [List.getElem?_eq_none (by omega), List.getElem?_eq_none (by omega)]
  refine run_loop (fun m s => ∃ i : Nat, i ≤ rows.length ∧ m = rows.length - i ∧ s.A 0 = .mp x 0 ∧ s.A 1 = .mp x2 0 ∧ s.A 5 = i64 i ∧ (∀ j, j < i → rows[j]? = rows2[j]?) ∧ s.H = H ∧ s.N = N) rows.length ?_ ?_
  · exact ⟨0, by omega, by omega, by simp, by simp, by simp, fun j hj => by omega, rfl, rfl⟩
  · rintro m A1 H1 N1 ⟨i, hi, rfl, g0, g1, g5, hsame, eH, eN⟩
    simp only at g0 g1 g5 eH eN
    subst eH
    subst eN
    have hw : IntKind.i64.wrap ((i : Int) + 1) = ((i + 1 : Nat) : Int) := by rw [wrap_i64 (by omega) (by omega)]; rfl
    unfold a_bobbinref08_Sameb3
    rw [e2]
    by_cases hil : i < rows.length
    · have n1 : (i : Int) < rows.length := by omega
      obtain ⟨row, hrow⟩ : ∃ row, rows[i]? = some row := ⟨rows[i], List.getElem?_eq_getElem hil⟩
      obtain ⟨row2, hrow2⟩ : ∃ row, rows2[i]? = some row := ⟨rows2[i]'(by omega), List.getElem?_eq_getElem _⟩
      obtain ⟨rid, b1, b2, b3, b4⟩ := row1 i row hrow
      obtain ⟨rid2, d1, d2, d3, d4⟩ := row2' i row2 hrow2
      have hbr := hM.hb row (List.mem_of_getElem? hrow)
      have hlr : row.length = row2.length := by have := hrr i; simpa [List.getD, hrow, hrow2] using this
      have q1 : alen 1 (.ms rid 0 row.length 1) = some (row.length : Int) := rfl
      have q2 : alen 1 (.ms rid2 0 row2.length 1) = some (row.length : Int) := by rw [hlr]; rfl
      simp [nilOf, g0, g1, g5, hx, hx2, a1, a2, n1, b1, b2, b3, d1, d2, d3, q1, q2, -alen]
      rw [← e2]
      refine run_loop (fun m s => ∃ k : Nat, k ≤ row.length ∧ m = row.length - k ∧ s.A 0 = .mp x 0 ∧ s.A 1 = .mp x2 0 ∧ s.A 5 = i64 i ∧ s.A 6 = i64 k ∧ (∀ j, j < k → row[j]? = row2[j]?) ∧ s.H = H1 ∧ s.N = N1) row.length ?_ ?_
      · exact ⟨0, by omega, by omega, by simp [g0], by simp [g1], by simp [g5], by simp, fun j hj => by omega, rfl, rfl⟩
      · rintro m A2 H2 N2 ⟨k, hk, rfl, f0, f1, f5, f6, hsr, eH, eN⟩
        simp only at f0 f1 f5 f6 eH eN
        subst eH
        subst eN
        have hwk : IntKind.i64.wrap ((k : Int) + 1) = ((k + 1 : Nat) : Int) := by rw [wrap_i64 (by omega) (by omega)]; rfl
        have w1 : ¬ (rows.length ≤ i) := by omega
        by_cases hkl : k < row.length
        · have m1 : (k : Int) < row.length := by omega
          have hk2 : k < row2.length := by omega
          have u1 : aindex 1 (.ms rid 0 row.length 1) (i64 (k : Nat)) = some (.mp rid k) := by simp [aindex, hkl]
          have u2 : aindex 1 (.ms rid2 0 row2.length 1) (i64 (k : Nat)) = some (.mp rid2 k) := by simp [aindex, hk2]
          by_cases hv : row[k] = row2[k]
          · simp [a_bobbinref08_Sameb2, nilOf, f0, f1, f5, f6, hx, hx2, b1, b2, b3, b4, d1, d2, d3, d4, q1, q2, u1, u2, m1, hkl, hk2, hv, hwk, -alen]
            refine ⟨row.length - (k + 1), by omega, k + 1, by omega, rfl, rfl, fun j hj => ?_⟩
            by_cases hjk : j = k
            · subst hjk; rw [List.getElem?_eq_getElem hkl, List.getElem?_eq_getElem hk2, hv]
            · exact hsr j (by omega)
          · have hne : rows ≠ rows2 := fun h => hv (by
              have : some row = some row2 := by rw [← hrow, ← hrow2, h]
              cases this; rfl)
            simp [a_bobbinref08_Sameb2, nilOf, f0, f1, f5, f6, hx, hx2, b1, b2, b3, b4, d1, d2, d3, d4, q1, q2, u1, u2, m1, hkl, hk2, hv, hne, -alen]
        · have m1 : ¬ (k : Int) < row.length := by omega
          have hrr2 : row = row2 := ext0 hlr fun j hj => hsr j (by omega)
          simp [a_bobbinref08_Sameb2, nilOf, f0, f1, f5, f6, hx, hx2, b1, b2, b3, q1, m1, hw, -alen]
          refine ⟨rows.length - (i + 1), by omega, i + 1, by omega, rfl, rfl, fun j hj => ?_⟩
          by_cases hji : j = i
          · subst hji; rw [hrow, hrow2, hrr2]
          · exact hsame j (by omega)
    · have n1 : ¬ (i : Int) < rows.length := by omega
      have hre : rows = rows2 := ext0 hrl fun j hj => hsame j (by omega)
      simp [nilOf, g0, g1, g5, hx, hx2, a1, a2, n1, -alen]
      rw [← e1]
      refine run_loop (fun m s => ∃ k : Nat, k ≤ fl.length ∧ m = fl.length - k ∧ s.A 0 = .mp x 0 ∧ s.A 1 = .mp x2 0 ∧ s.A 7 = i64 k ∧ (∀ j, j < k → fl[j]? = fl2[j]? ∧ by_[j]? = by2[j]?) ∧ s.H = H1 ∧ s.N = N1) fl.length ?_ ?_
      · exact ⟨0, by omega, by omega, by simp [g0], by simp [g1], by simp, fun j hj => by omega, rfl, rfl⟩
      · rintro m A2 H2 N2 ⟨k, hk, rfl, f0, f1, f7, hsf, eH, eN⟩
        simp only at f0 f1 f7 eH eN
        subst eH
        subst eN
        have hwk : IntKind.i64.wrap ((k : Int) + 1) = ((k + 1 : Nat) : Int) := by rw [wrap_i64 (by omega) (by omega)]; rfl
        by_cases hkl : k < fl.length
        · have m1 : (k : Int) < fl.length := by omega
          have hk2 : k < fl2.length := by omega
          have hk3 : k < by_.length := by omega
          have hk4 : k < by2.length := by omega
          obtain ⟨u1, u2⟩ := hM.hf.at_ (i := k) (by rw [blC_len]; exact hkl)
          obtain ⟨u3, u4⟩ := hM2.hf.at_ (i := k) (by rw [blC_len]; exact hk2)
          obtain ⟨u5, u6⟩ := hM.hy.at_ (i := k) (by rw [inC_len]; exact hk3)
          obtain ⟨u7, u8⟩ := hM2.hy.at_ (i := k) (by rw [inC_len]; exact hk4)
          have v1 : (blC fl)[k]? = some (bl fl[k]) := by simp [blC, hkl]
          have v2 : (blC fl2)[k]? = some (bl fl2[k]) := by simp [blC, hk2]
          have v3 : (inC by_)[k]? = some (i64 by_[k]) := by simp [inC, hk3]
          have v4 : (inC by2)[k]? = some (i64 by2[k]) := by simp [inC, hk4]
          by_cases hv : fl[k] = fl2[k]
          · obtain ⟨b, hb⟩ : ∃ b, fl2[k] = b := ⟨_, rfl⟩
            rw [hv, hb] at v1
            rw [hb] at v2
            by_cases hz : by_[k] = by2[k]
            · cases b <;>
              · simp [a_bobbinref08_Sameb1, nilOf, f0, f1, f7, hx, hx2, hlf, u1, u2, u3, u4, u5, u6, u7, u8, v1, v2, v3, v4, m1, hz, hwk, -alen]
                refine ⟨fl.length - (k + 1), by omega, k + 1, by omega, rfl, rfl, fun j hj => ?_⟩
                by_cases hjk : j = k
                · subst hjk; rw [List.getElem?_eq_getElem hkl, List.getElem?_eq_getElem hk2, List.getElem?_eq_getElem hk3, List.getElem?_eq_getElem hk4, hv, hz]; exact ⟨rfl, rfl⟩
                · exact hsf j (by omega)
            · have hne : by_ ≠ by2 := fun h => hz (by subst h; rfl)
              cases b <;> simp [a_bobbinref08_Sameb1, nilOf, f0, f1, f7, hx, hx2, hlf, u1, u2, u3, u4, u5, u6, u7, u8, v1, v2, v3, v4, m1, hz, hne, -alen]
          · have hne : fl ≠ fl2 := fun h => hv (by subst h; rfl)
            obtain ⟨b, hb⟩ : ∃ b, fl2[k] = b := ⟨_, rfl⟩
            have hb1 : fl[k] = !b := by rw [hb] at hv; cases h : fl[k] <;> cases b <;> simp_all
            rw [hb1] at v1
            rw [hb] at v2
            cases b <;> simp [a_bobbinref08_Sameb1, nilOf, f0, f1, f7, hx, hx2, hlf, u1, u2, u3, u4, v1, v2, m1, hne, -alen]
        · have m1 : ¬ (k : Int) < fl.length := by omega
          have h1 : fl = fl2 := ext0 hfl fun j hj => (hsf j (by omega)).1
          have h2 : by_ = by2 := ext0 (by omega) fun j hj => (hsf j (by omega)).2
          have hd : (decide (rows = rows2) && (decide (fl = fl2) && decide (by_ = by2))) = true := by simp only [hre, h1, h2, decide_true, Bool.and_self]
          rw [hd]
          simp [a_bobbinref08_Sameb1, nilOf, f0, f1, f7, hx, hlf, m1, -alen]
end
end Go.Proofs.Ytmgmgeijfkcglaa
