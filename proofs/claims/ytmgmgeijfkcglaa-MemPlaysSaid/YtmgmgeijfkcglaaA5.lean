/- Contracts of mem's memory: cells and locks. -/
import Derived.Test.YtmgmgeijfkcglaaA4
namespace Go.Proofs.Ytmgmgeijfkcglaa
set_option linter.unusedSimpArgs false
set_option linter.unusedVariables false
open Go Go.Fw
attribute [local simp] Value.oneCell' anil aidxs noHeap_or set_or

section
variable {H : AHeap} {m hid cid : Nat} {rids : List Nat} {rows : List (List Int)} {locks : Int} {held : List (Int × Int)} 

/-- Where a cell stands: its error, or its row. -/
def cellErr (rows : List (List Int)) (a p : Int) : Int :=
  if a < 0 ∨ (rows.length : Int) ≤ a then 1 else if p < 0 ∨ ((rows.getD a.toNat []).length : Int) ≤ p then 5 else 0

theorem p40 (hM : IsMem H m hid cid rids rows locks held) (a p : Int) (N : Nat) : ACall Try.prog 40 [.mp m 0, i64 a, i64 p] H N (fun r H' N' =>
    r = .tup [if cellErr rows a p = 0 then .mp (rids.getD a.toNat 0) p.toNat else .lit (.pointer none), i64 (cellErr rows a p)] ∧ H' = H ∧ N' = N) := by
  refine acall mixed c40 (by simp) ?_
  by_cases h0 : a < 0
  · simp [a40, nilOf, h0, cellErr]
  · obtain ⟨i, rfl⟩ : ∃ i : Nat, a = i := ⟨a.toNat, by omega⟩
    by_cases h1 : rids = []
    · have : rows = [] := by have := hM.hl; rw [h1] at this; exact List.eq_nil_of_length_eq_zero this.symm
      subst h1; subst this
      simp [a40, nilOf, cellErr, hM.hm, h0]
    · have hl := hM.hl
      by_cases h2 : i < rids.length
      · have hcells : aindex 1 (.ms cid 0 rids.length 1) (i64 i) = some (.mp cid i) := by simp [aindex, h2]
        have h2' : i < rows.length := by omega
        have hrow : (List.zipWith (fun rid row => AV.ms rid 0 (List.length row) 1) rids rows)[i]? = some (.ms rids[i] 0 rows[i].length 1) := by
          simp [List.getElem?_zipWith, h2, h2']
        have hn1 : ¬ rows.length ≤ i := by omega
        by_cases h3 : p < 0
        · simp [a40, nilOf, cellErr, hM.hm, h0, h1, h2, h2', h3, hl, hn1]
        · obtain ⟨j, rfl⟩ : ∃ j : Nat, p = j := ⟨p.toNat, by omega⟩
          by_cases h4 : j < rows[i].length
          · have hcell : aindex 1 (.ms rids[i] 0 rows[i].length 1) (i64 j) = some (.mp rids[i] j) := by simp [aindex, h4]
            have hn2 : ¬ rows[i].length ≤ j := by omega
            simp [a40, nilOf, cellErr, hM.hm, h0, h1, h2, h2', h3, hl, hn1, hn2, hl ▸ hcells, hM.hc h1, hrow, hcell]
          · have hn2 : rows[i].length ≤ j := by omega
            simp [a40, nilOf, cellErr, hM.hm, h0, h1, h2, h2', h3, hl, hn1, hn2, hl ▸ hcells, hM.hc h1, hrow]
      · have hn1 : rows.length ≤ i := by omega
        simp [a40, nilOf, cellErr, hM.hm, h0, h1, hl, hn1]

/-- The number in a cell. -/
def cellAt (rows : List (List Int)) (a p : Int) : Int := if cellErr rows a p = 0 then (rows.getD a.toNat []).getD p.toNat 0 else 0

theorem cell_row (hM : IsMem H m hid cid rids rows locks held) {a p : Int} (h : cellErr rows a p = 0) : ∃ i j rid row, a = (i : Nat) ∧ p = (j : Nat) ∧ rids[i]? = some rid ∧ rows[i]? = some row ∧ j < row.length ∧ rids.getD a.toNat 0 = rid ∧ rows.getD a.toNat [] = row ∧ H rid = some (.blk (row.map fun n => i64 n)) := by
  unfold cellErr at h
  split at h
  · cases h
  · split at h
    · cases h
    · rename_i h1 h2
      have hl := hM.hl
      obtain ⟨i, rfl⟩ : ∃ i : Nat, a = i := ⟨a.toNat, by omega⟩
      obtain ⟨j, rfl⟩ : ∃ j : Nat, p = j := ⟨p.toNat, by omega⟩
      have hi : i < rows.length := by omega
      have hi' : i < rids.length := by omega
      simp [hi] at h2
      exact ⟨i, j, rids[i], rows[i], rfl, rfl, by simp [hi'], by simp [hi], by omega, by simp [hi'], by simp [hi], hM.hr i _ _ (by simp [hi']) (by simp [hi])⟩

theorem p24 (hM : IsMem H m hid cid rids rows locks held) (a p : Int) (N : Nat) : ACall Try.prog 24 [.mp m 0, i64 a, i64 p] H N (fun r H' N' =>
    r = .tup [i64 (cellAt rows a p), i64 (cellErr rows a p)] ∧ H' = H ∧ N' = N) := by
  refine acall mixed c24 (by simp) ?_
  simp [a24]
  refine (p40 hM a p N).mono ?_
  rintro r H' N' ⟨rfl, rfl, rfl⟩
  by_cases h : cellErr rows a p = 0
  · obtain ⟨i, j, rid, row, rfl, rfl, h1, h2, h3, h4, h5, h6⟩ := cell_row hM h
    simp [h, cellAt, h4, h5, h6]
    simp at h4 h5
    simp [h1, h2, h3, h6]
  · simp [h, cellAt]

/-- The rows behind a store. -/
def setRows (rows : List (List Int)) (a p : Int) (v : Int) : List (List Int) := if cellErr rows a p = 0 then rows.set a.toNat ((rows.getD a.toNat []).set p.toNat v) else rows

theorem isMem_set (hM : IsMem H m hid cid rids rows locks held) {i j rid : Nat} {row : List Int} (h1 : rids[i]? = some rid) (h2 : rows[i]? = some row) (h3 : j < row.length) (v : Int) :
    IsMem (H.set rid (.blk ((row.map fun n => i64 n).set j (i64 v)))) m hid cid rids (rows.set i (row.set j v)) locks held := by
  have hne : rids ≠ [] := by intro h; rw [h] at h1; cases h1
  have hnd := hM.nd
  rw [if_neg hne] at hnd
  have hmem : rid ∈ rids := List.mem_of_getElem? h1
  have hm : m ≠ rid := by intro h; subst h; simp [hmem] at hnd
  have hh : hid ≠ rid := by intro h; subst h; simp [hmem] at hnd
  have hc : cid ≠ rid := by intro h; subst h; simp [hmem] at hnd
  have hil : i < rows.length := (List.getElem?_eq_some_iff.1 h2).1
  refine ⟨fun x hx => ?_, by simpa using hM.hn, hM.hk, by simp [hm, hM.hm], by simp [hh, hM.hh], fun h => ?_, by simp [hM.hl], fun k rk rowk hk hrk => ?_, hM.nd⟩
  · rcases List.mem_or_eq_of_mem_set hx with hx | rfl
    · exact hM.hb x hx
    · simpa using hM.hb row (List.mem_of_getElem? h2)
  · simp only [set_at, if_neg hc, hM.hc h]
    congr 2
    apply List.ext_getElem?
    intro k
    simp only [List.getElem?_zipWith, List.getElem?_set]
    by_cases hik : i = k
    · subst hik; simp [hil, h1, (List.getElem?_eq_some_iff.1 h2).2]
    · simp [hik]
  · simp only [set_at]
    by_cases hik : i = k
    · subst hik
      rw [h1] at hk; cases hk
      simp [hil] at hrk
      subst hrk
      simp [List.map_set]
    · have : rk ≠ rid := by
        intro h; subst h
        have hnr : rids.Nodup := by simp at hnd; exact hnd.2.2.2
        have hi1 := (List.getElem?_eq_some_iff.1 h1)
        have hk1 := (List.getElem?_eq_some_iff.1 hk)
        exact hik ((List.getElem_inj hnr).1 (hi1.2.trans hk1.2.symm))
      simp only [List.getElem?_set, if_neg hik] at hrk
      rw [if_neg this]
      exact hM.hr k rk rowk hk hrk

theorem p21 (hM : IsMem H m hid cid rids rows locks held) (a p v : Int) (N : Nat) : ACall Try.prog 21 [.mp m 0, i64 a, i64 p, i64 v] H N (fun r H' N' =>
    r = i64 (cellErr rows a p) ∧ IsMem H' m hid cid rids (setRows rows a p v) locks held ∧ (∀ id, id ∉ rids → H' id = H id) ∧ N' = N) := by
  refine acall mixed c21 (by simp) ?_
  simp [a21]
  refine (p40 hM a p N).mono ?_
  rintro r H' N' ⟨rfl, rfl, rfl⟩
  by_cases h : cellErr rows a p = 0
  · obtain ⟨i, j, rid, row, rfl, rfl, h1, h2, h3, h4, h5, h6⟩ := cell_row hM h
    simp [h, setRows, h4, h5, h6]
    simp at h4 h5
    simp [h1, h2, show j + 1 ≤ row.length by omega, h6]
    refine ⟨isMem_set hM h1 h2 h3 v, fun id hid heq => ?_⟩
    subst heq
    exact absurd (List.mem_of_getElem? h1) hid
  · simp [h, setRows, hM]

def lockErr (locks l : Int) : Int := if l < 0 ∨ locks ≤ l then 1 else 0

theorem p41 (hM : IsMem H m hid cid rids rows locks held) (l : Int) (N : Nat) : ACall Try.prog 41 [.mp m 0, i64 l] H N (fun r H' N' => r = i64 (lockErr locks l) ∧ H' = H ∧ N' = N) := by
  refine acall mixed c41 (by simp) ?_
  by_cases h0 : l < 0
  · simp [a41, nilOf, h0, lockErr]
  · by_cases h1 : locks ≤ l <;> simp [a41, nilOf, h0, h1, lockErr, hM.hm]

def holder (held : List (Int × Int)) (k : Int) : Option Int := (held.find? (fun x => x.1 == k)).map (·.2)
abbrev hcell (x : Int × Int) : Value × AV := (.int .i64 x.1, i64 x.2)

theorem afind_held (k : Int) : ∀ (held : List (Int × Int)) (i : Nat), afind (.int .i64 k) (held.map hcell) i = some ((held.findIdx? (fun x => x.1 == k)).map (· + i))
  | [], i => rfl
  | x :: r, i => by
    have ih := afind_held k r (i + 1)
    have hc : (k == x.1) = (x.1 == k) := BEq.comm
    simp only [List.map_cons, afind, keq, if_true, hc, List.findIdx?_cons]
    cases (x.1 == k) with
    | true => simp
    | false =>
      simp only [ih]
      cases List.findIdx? (fun x => x.1 == k) r with
      | none => rfl
      | some j => simp; omega

theorem holder_none {held : List (Int × Int)} {k : Int} (h : holder held k = none) : held.findIdx? (fun x => x.1 == k) = none := by
  simp [holder] at h
  exact List.findIdx?_eq_none_iff.2 (fun x hx => by simpa using h x.1 x.2 hx)

theorem holder_some {held : List (Int × Int)} {k v : Int} (h : holder held k = some v) : ∃ j, held.findIdx? (fun x => x.1 == k) = some j ∧ held[j]? = some (k, v) := by
  induction held with
  | nil => simp [holder] at h
  | cons x r ih =>
    simp only [holder, List.find?_cons] at h
    rw [List.findIdx?_cons]
    cases hk : (x.1 == k) with
    | true =>
      rw [hk] at h
      simp at h hk
      exact ⟨0, by simp, by simp [← h, ← hk]⟩
    | false =>
      rw [hk] at h
      obtain ⟨j, h1, h2⟩ := ih h
      exact ⟨j + 1, by simp [h1], by simpa using h2⟩

theorem alook_held {z : AV} (hh : H hid = some (.map (held.map hcell))) (k : Int) : alook z H (.mm hid) (i64 k) = some (match holder held k with | some v => (i64 v, true) | none => (z, false)) := by
  simp only [alook, hh, afind_held]
  cases hd : holder held k with
  | none => simp [holder_none hd]
  | some v =>
    obtain ⟨j, h1, h2⟩ := holder_some hd
    simp [h1, h2]

theorem p25 (hM : IsMem H m hid cid rids rows locks held) (l : Int) (N : Nat) : ACall Try.prog 25 [.mp m 0, i64 l] H N (fun r H' N' => r = .tup [i64 ((holder held l).getD 0), bl (holder held l).isSome] ∧ H' = H ∧ N' = N) := by
  refine acall mixed c25 (by simp) ?_
  simp [a25, nilOf, hM.hm, alook_held hM.hh, -alook]
  cases holder held l <;> simp

theorem isMem_held (hM : IsMem H m hid cid rids rows locks held) {held' : List (Int × Int)} (hk : (held'.map (·.1)).Nodup) : IsMem (H.set hid (.map (held'.map hcell))) m hid cid rids rows locks held' := by
  have hnd := hM.nd
  have hm : m ≠ hid := by intro h; subst h; simp at hnd
  refine ⟨hM.hb, hM.hn, hk, by simp [hm, hM.hm], by simp, fun h => ?_, hM.hl, fun i rid row h1 h2 => ?_, hM.nd⟩
  · have : cid ≠ hid := by intro h'; subst h'; rw [if_neg h] at hnd; simp at hnd
    simp [this, hM.hc h]
  · have hne : rids ≠ [] := by intro h; rw [h] at h1; cases h1
    have : rid ≠ hid := by
      intro h'; subst h'
      rw [if_neg hne] at hnd
      simp [List.mem_of_getElem? h1] at hnd
    simp only [set_at, if_neg this]
    exact hM.hr i rid row h1 h2

def takeErr (locks : Int) (held : List (Int × Int)) (l : Int) : Int := if lockErr locks l ≠ 0 then lockErr locks l else if (holder held l).isSome = true then 6 else 0
def takeHeld (locks : Int) (held : List (Int × Int)) (l who : Int) : List (Int × Int) := if takeErr locks held l = 0 then held ++ [(l, who)] else held

theorem p22 (hM : IsMem H m hid cid rids rows locks held) (l who : Int) (N : Nat) : ACall Try.prog 22 [.mp m 0, i64 l, i64 who] H N (fun r H' N' =>
    r = i64 (takeErr locks held l) ∧ IsMem H' m hid cid rids rows locks (takeHeld locks held l who) ∧ (∀ id, id ≠ hid → H' id = H id) ∧ N' = N) := by
  refine acall mixed c22 (by simp) ?_
  simp [a22]
  refine (p41 hM l N).mono ?_
  rintro r H' N' ⟨rfl, rfl, rfl⟩
  by_cases h : lockErr locks l = 0
  · cases hd : holder held l with
    | some v => simp [h, hM.hm, alook_held hM.hh, -alook, hd, takeErr, takeHeld, hM]
    | none =>
      have hset : amapset H' (.mm hid) (i64 l) (i64 who) = some (H'.set hid (.map ((held ++ [(l, who)]).map hcell))) := by
        have := hM.hh
        simp only [amapset, this, afind_held, holder_none hd, Option.map_none]
        simp
      simp [h, hM.hm, alook_held hM.hh, -alook, hd, takeErr, takeHeld, hset, -amapset]
      have hn : ((held ++ [(l, who)]).map (·.1)).Nodup := by
        have := hM.hk
        simp only [List.map_append, List.map_cons, List.map_nil, List.nodup_append, List.nodup_cons, List.not_mem_nil, not_false_eq_true, List.nodup_nil, and_self, List.mem_cons, or_false, true_and]
        refine ⟨this, fun a ha b hb => ?_⟩
        subst hb
        intro heq
        subst heq
        obtain ⟨x, hx, rfl⟩ := List.mem_map.1 ha
        simp [holder] at hd
        exact hd x.1 x.2 hx rfl
      have hI := isMem_held hM hn
      simp only [List.map_append, List.map_cons, List.map_nil] at hI
      exact ⟨hI, fun id h1 h2 => absurd h2 h1⟩
  · simp [h, takeErr, takeHeld, hM]

def giveErr (locks : Int) (held : List (Int × Int)) (l who : Int) : Int := if lockErr locks l ≠ 0 then lockErr locks l else if holder held l = some who then 0 else 69
def giveHeld (locks : Int) (held : List (Int × Int)) (l who : Int) : List (Int × Int) := if giveErr locks held l who = 0 then held.filter (fun x => x.1 != l) else held

theorem erase_held {held : List (Int × Int)} (hk : (held.map (·.1)).Nodup) {l : Int} {j : Nat} (h : held.findIdx? (fun x => x.1 == l) = some j) : held.eraseIdx j = held.filter (fun x => x.1 != l) := by
  induction held generalizing j with
  | nil => simp at h
  | cons x r ih =>
    simp only [List.map_cons, List.nodup_cons] at hk
    rw [List.findIdx?_cons] at h
    cases hx : (x.1 == l) with
    | true =>
      rw [hx] at h
      simp at h
      subst h
      have hxl : x.1 = l := by simpa using hx
      simp only [List.eraseIdx_cons_zero]
      rw [List.filter_cons_of_neg (by simp [hxl])]
      rw [List.filter_eq_self.2]
      intro y hy
      have : y.1 ≠ l := by
        intro heq
        exact hk.1 (List.mem_map.2 ⟨y, hy, by rw [heq, hxl]⟩)
      simpa using this
    | false =>
      rw [hx] at h
      simp only [Bool.false_eq_true, if_false, Option.map_eq_some_iff] at h
      obtain ⟨i, h1, rfl⟩ := h
      have hxl : x.1 ≠ l := by simpa using hx
      rw [List.eraseIdx_cons_succ, ih hk.2 h1, List.filter_cons_of_pos (by simpa using hxl)]

theorem map_erase {α β : Type} (f : α → β) : ∀ (l : List α) (j : Nat), (l.map f).eraseIdx j = (l.eraseIdx j).map f
  | [], _ => rfl
  | _ :: _, 0 => rfl
  | x :: l, j + 1 => by simp [map_erase f l j]

theorem p23 (hM : IsMem H m hid cid rids rows locks held) (l who : Int) (N : Nat) : ACall Try.prog 23 [.mp m 0, i64 l, i64 who] H N (fun r H' N' =>
    r = i64 (giveErr locks held l who) ∧ IsMem H' m hid cid rids rows locks (giveHeld locks held l who) ∧ (∀ id, id ≠ hid → H' id = H id) ∧ N' = N) := by
  refine acall mixed c23 (by simp) ?_
  simp [a23]
  refine (p41 hM l N).mono ?_
  rintro r H' N' ⟨rfl, rfl, rfl⟩
  by_cases h : lockErr locks l = 0
  · cases hd : holder held l with
    | none => simp [h, hM.hm, alook_held hM.hh, -alook, hd, giveErr, giveHeld, hM]
    | some v =>
      by_cases hw : v = who
      · subst hw
        have hdel : amapdel H' (.mm hid) (i64 l) = some (H'.set hid (.map ((held.filter (fun x => x.1 != l)).map hcell))) := by
          have := hM.hh
          obtain ⟨j, h1, h2⟩ := holder_some hd
          rw [← erase_held hM.hk h1]
          simp only [amapdel, this, afind_held, h1, Option.map_some]
          simp [map_erase]
        have hI := isMem_held hM (held' := held.filter (fun x => x.1 != l)) (List.Nodup.sublist (List.Sublist.map _ List.filter_sublist) hM.hk)
        simp [h, hM.hm, alook_held hM.hh, -alook, hd, giveErr, giveHeld, hdel, -amapdel]
        refine ⟨hI, fun id h1 h2 => absurd h2 h1⟩
      · simp [h, hM.hm, alook_held hM.hh, -alook, hd, giveErr, giveHeld, hM, hw]
  · simp [h, giveErr, giveHeld, hM]

end
end Go.Proofs.Ytmgmgeijfkcglaa
