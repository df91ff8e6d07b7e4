/- The reference's memory: how rows are built; New and Copy. -/
import Derived.Test.YtmgmgeijfkcglaaB4
namespace Go.Proofs.Ytmgmgeijfkcglaa
set_option linter.unusedSimpArgs false
set_option linter.unusedVariables false
open Go Go.Fw
attribute [local simp] Value.oneCell' anil aidxs noHeap_or set_or

def rowsEs (rids : List Nat) (rows : List (List Int)) : List (List AV) := List.zipWith (fun rid row => [AV.ms rid 0 (List.length row) 1]) rids rows
theorem rowsEs_flat (rids : List Nat) (rows : List (List Int)) : (rowsEs rids rows).flatten = List.zipWith (fun rid row => AV.ms rid 0 (List.length row) 1) rids rows := by
  induction rids generalizing rows with
  | nil => rfl
  | cons r rids ih => cases rows with
    | nil => rfl
    | cons row rows => simp only [rowsEs, List.zipWith_cons_cons, List.flatten_cons] at ih ⊢; rw [ih]; rfl
theorem rowsEs_len {rids : List Nat} {rows : List (List Int)} (h : rids.length = rows.length) : (rowsEs rids rows).length = rows.length := by simp [rowsEs, h]
theorem rowsEs_snoc {rids : List Nat} {rows : List (List Int)} (h : rids.length = rows.length) (r : Nat) (row : List Int) : rowsEs (rids ++ [r]) (rows ++ [row]) = rowsEs rids rows ++ [[.ms r 0 row.length 1]] := by
  rw [rowsEs, List.zipWith_append h]; rfl
/-- Rows that are being built, with what holds them. -/
structure Rowing (H : AHeap) (lo N : Nat) (rows : List (List Int)) (rids : List Nat) (v : AV) : Prop where
  len : rids.length = rows.length
  b : Built H lo 1 (.sl .nil 0 []) (rowsEs rids rows) v
  hr : ∀ (j rid : Nat) (row : List Int), rids[j]? = some rid → rows[j]? = some row → H rid = some (.blk (row.map fun n => i64 n))
  lt : ∀ rid ∈ rids, lo ≤ rid ∧ rid < N ∧ ∀ n, v ≠ .ms rid 0 n 1
  nd : rids.Nodup
theorem Rowing.start (H : AHeap) (lo N : Nat) : Rowing H lo N [] [] (.sl .nil 0 []) := ⟨rfl, Built.nil, fun j rid row h => by simp at h, fun rid h => by simp at h, List.nodup_nil⟩
theorem Rowing.keep {H H' : AHeap} {lo N N' : Nat} {rows : List (List Int)} {rids : List Nat} {v : AV} (h : Rowing H lo N rows rids v) (hF : Fresh H N) (hk : ∀ j, lo ≤ j → j < N → H' j = H j) (hN : N ≤ N') : Rowing H' lo N' rows rids v := by
  refine ⟨h.len, ?_, fun j rid row a b => ?_, fun rid hrid => ?_, h.nd⟩
  · obtain ⟨b1, b2⟩ := h.b
    refine ⟨b1, b2.imp (fun x => x) ?_⟩
    rintro ⟨hne, id, hid, rfl, hH⟩
    exact ⟨hne, id, hid, rfl, by rw [hk id hid (hF.lt hH), hH]⟩
  · obtain ⟨l1, l2, _⟩ := h.lt rid (List.mem_of_getElem? a)
    rw [hk rid l1 l2, h.hr j rid row a b]
  · obtain ⟨l1, l2, l3⟩ := h.lt rid hrid
    exact ⟨l1, by omega, l3⟩
theorem Rowing.grow {H : AHeap} {lo N rid : Nat} {rows : List (List Int)} {rids : List Nat} {v : AV} {row : List Int} (h : Rowing H lo N rows rids v) (hF : Fresh H N) (hlo : lo ≤ N) (hn : rows.length ≤ 1000000000) (hrow : H rid = some (.blk (row.map fun n => i64 n)))
    (hrid : lo ≤ rid) (hni : rid ∉ rids) (hnv : ∀ n, v ≠ .ms rid 0 n 1) :
    ∃ H', aappend false 1 24 H N v (.sl .exact 1 [[.ms rid 0 row.length 1]]) = some (.ms N 0 (rows.length + 1) 1, H', N + 1) ∧ Rowing H' lo (N + 1) (rows ++ [row]) (rids ++ [rid]) (.ms N 0 (rows.length + 1) 1) ∧ Fresh H' (N + 1) ∧ ∀ j, j < lo → H' j = H j := by
  have hel := rowsEs_len h.len
  obtain ⟨H', happ, h1, h2, h3, h4⟩ := push_raw (bytes := 24) (k := .exact) (x := [.ms rid 0 row.length 1]) h.b hF hlo rfl (by rw [hel]; simp only [lim]; omega) (by rw [hel]; omega)
  rw [hel] at happ h4
  have hlt := hF.lt hrow
  have hvid : ∀ j n, v = .ms j 0 n 1 → lo ≤ j := fun j n he => by
    obtain ⟨_, ⟨_, hz, _⟩ | ⟨_, id, hid, hz, _⟩⟩ := h.b
    · rw [hz] at he; cases he
    · rw [hz] at he; cases he; exact hid
  refine ⟨H', happ, ⟨by simp [h.len], by rw [rowsEs_snoc h.len]; exact h4, fun j r row' a b => ?_, fun r hr => ?_, ?_⟩, h3, fun j hj => h2 j (by omega) fun n he => by have := hvid j n he; omega⟩
  · by_cases hj : j < rids.length
    · rw [List.getElem?_append_left hj] at a
      rw [List.getElem?_append_left (by rw [← h.len]; exact hj)] at b
      obtain ⟨l1, l2, l3⟩ := h.lt r (List.mem_of_getElem? a)
      rw [h2 r (by omega) l3, h.hr j r row' a b]
    · have hlen := (List.getElem?_eq_some_iff.1 a).1
      simp at hlen
      obtain rfl : j = rids.length := by omega
      simp at a
      rw [h.len] at b
      simp at b
      subst a; subst b
      rw [h2 rid (by omega) hnv, hrow]
  · rcases List.mem_append.1 hr with hr | hr
    · obtain ⟨l1, l2, l3⟩ := h.lt r hr
      exact ⟨l1, by omega, fun n he => by cases he; omega⟩
    · rw [List.mem_singleton] at hr
      subst hr
      exact ⟨hrid, by omega, fun n he => by cases he; omega⟩
  · rw [List.nodup_append]
    refine ⟨h.nd, by simp, fun a ha b hb => ?_⟩
    rw [List.mem_singleton] at hb
    subst hb
    intro he
    exact hni (he ▸ ha)
/-- What was built, as a memory has it. -/
theorem Rowing.done {H : AHeap} {lo N : Nat} {rows : List (List Int)} {rids : List Nat} {v : AV} (h : Rowing H lo N rows rids v) (hF : Fresh H N) : ∃ cid, v = (if rids = [] then .sl .nil 0 [] else .ms cid 0 rids.length 1) ∧ (rids ≠ [] → H cid = some (.blk (List.zipWith (fun rid row => .ms rid 0 (List.length row) 1) rids rows)) ∧ lo ≤ cid ∧ cid < N ∧ cid ∉ rids) := by
  obtain ⟨hs, ⟨he, hz, _⟩ | ⟨hne, id, hid, hz, hH⟩⟩ := h.b
  · have hl := rowsEs_len h.len
    rw [he] at hl
    have hr0 : rids = [] := List.eq_nil_of_length_eq_zero (by rw [h.len, ← hl]; rfl)
    exact ⟨0, by rw [if_pos hr0, hz], fun hn => absurd hr0 hn⟩
  · have hl := rowsEs_len h.len
    have hr0 : rids ≠ [] := fun h0 => hne (by rw [h0]; rfl)
    refine ⟨id, by rw [if_neg hr0, hz, hl, h.len], fun _ => ⟨by rw [hH, rowsEs_flat], hid, hF.lt hH, fun hm => ?_⟩⟩
    exact (h.lt id hm).2.2 _ hz
end Go.Proofs.Ytmgmgeijfkcglaa
