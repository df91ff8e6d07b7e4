/- Contracts of mem's memory: New. -/
import Derived.Test.YtmgmgeijfkcglaaA3
namespace Go.Proofs.Ytmgmgeijfkcglaa
set_option linter.unusedSimpArgs false
set_option linter.unusedVariables false
open Go Go.Fw
attribute [local simp] Value.oneCell' anil aidxs noHeap_or set_or

/-- A global: its name, its size, what is in it at first. -/
structure Glob where
  name : ByteArray
  size : Int
  first : Int

def Glob.cells (x : Glob) : List AV := [.lit (.string x.name), i64 x.size, i64 x.first]
def Glob.bad (x : Glob) : Bool := decide (x.size < 1 ∨ 1024 < x.size)

theorem p38 (x : Glob) : PCall Try.prog 38 [.agg x.cells] (bl x.bad) := by
  refine PCall.of fun N => acall mixed c38 (by simp) ?_
  by_cases h : x.size < 1
  · simp [a38, Glob.cells, h, Glob.bad]; exact .free rfl
  · by_cases h2 : 1024 < x.size <;> simp [a38, Glob.cells, h, h2, Glob.bad] <;> exact .free rfl

theorem globs_load (H : AHeap) (x : Glob) : aload H true 3 (.ip x.cells 0) = some (.agg x.cells) := by simp [Glob.cells]

def firstBad (l : List Glob) : Int := match l.findIdx? Glob.bad with
  | some i => i
  | none => -1

theorem p65 (k : SK) (l : List Glob) (hl : l.length < 9223372036854775807) (N : Nat) (H : AHeap) : ACall Try.prog 65 [.sl k 3 (l.map Glob.cells), .fn (.func 38) [] []] H N (fun r H' N' => r = i64 (firstBad l) ∧ H' = H ∧ N' = N) := by
  refine acall mixed c65 (by simp) ?_
  simp [a65]
  refine run_loop (fun m s => ∃ j, j ≤ l.length ∧ m = l.length - j ∧ s.A 0 = .sl k 3 (l.map Glob.cells) ∧ s.A 1 = .fn (.func 38) [] [] ∧ s.A 7 = i64 l.length ∧ s.A 8 = i64 j ∧ s.H = H ∧ s.N = N ∧ ∀ x ∈ l.take j, x.bad = false) l.length ?_ ?_
  · exact ⟨0, by omega, by omega, by simp, by simp, by simp, by simp, by simp, by simp, by simp⟩
  · rintro m A H N1 ⟨j, hj1, rfl, h0, h1, h7, h8, rfl, rfl, hall⟩
    simp at h0 h1 h7 h8
    by_cases hjk : j = l.length
    · subst hjk
      have : firstBad l = -1 := by
        have hn : l.findIdx? Glob.bad = none := List.findIdx?_eq_none_iff.2 (fun x hx => hall x (by simpa using hx))
        simp [firstBad, hn]
      simp [h7, h8, this]
    · have hlt : j < l.length := by omega
      have hix : aindex 3 (.sl k 3 (l.map Glob.cells)) (i64 j) = some (.ip l[j].cells 0) := by simp [aindex, hlt]
      simp [h7, h8, h0, h1, hlt, hix, globs_load, -aload]
      refine (p38 l[j]).acall ?_
      simp
      cases hb : l[j].bad with
      | true =>
        have : firstBad l = j := by
          have hn : l.findIdx? Glob.bad = some j := by
            rw [List.findIdx?_eq_some_iff_getElem]
            refine ⟨hlt, hb, fun i hi => ?_⟩
            simp [hall l[i] (List.mem_take_iff_getElem.2 ⟨i, by omega, rfl⟩)]
          simp [firstBad, hn]
        simp [this]
      | false =>
        simp [h7, h8, h0, h1]
        refine ⟨l.length - (j + 1), by omega, j + 1, by omega, rfl, by rw [wrap_i64 (by omega) (by omega)]; rfl, fun x hx => ?_⟩
        rw [List.take_add_one, List.mem_append] at hx
        rcases hx with hx | hx
        · exact hall x hx
        · simp [hlt] at hx; subst hx; exact hb

theorem p37 (k : SK) (l : List Glob) (hl : l.length < 9223372036854775807) (N : Nat) (H : AHeap) : ACall Try.prog 37 [.sl k 3 (l.map Glob.cells), .fn (.func 38) [] []] H N (fun r H' N' => r = bl (l.any Glob.bad) ∧ H' = H ∧ N' = N) := by
  refine acall mixed c37 (by simp) ?_
  simp [a37]
  refine (p65 k l hl N H).mono ?_
  rintro r H' N' ⟨rfl, rfl, rfl⟩
  simp
  unfold firstBad
  cases hf : l.findIdx? Glob.bad with
  | none =>
    have := List.findIdx?_eq_none_iff.1 hf
    simp
    intro x hx
    exact this x hx
  | some i =>
    obtain ⟨h, h1, _⟩ := List.findIdx?_eq_some_iff_getElem.1 hf
    have : l.any Glob.bad = true := List.any_eq_true.2 ⟨l[i], List.getElem_mem h, h1⟩
    simp [this]

theorem p39' (v : Int) (k : Nat) (h : 1 ≤ k) (h2 : k ≤ 65536) (N : Nat) (H : AHeap) :
    ACall Try.prog 39 [.sl .exact 1 [[i64 v]], i64 k] H N (fun r H' N' => r = .ms N 0 k 1 ∧ H' = H.set N (.blk (List.replicate k (i64 v))) ∧ N' = N + 1 ∧ Keeps H H') :=
  (p39 v k h h2 N).lift H (by rintro r H1 N' ⟨rfl, rfl, rfl⟩ hk; simp at hk ⊢; exact hk)

/-- A memory, in the heap. -/
structure IsMem (H : AHeap) (m hid cid : Nat) (rids : List Nat) (rows : List (List Int)) (locks : Int) (held : List (Int × Int)) : Prop where
  hb : ∀ row ∈ rows, 1 ≤ row.length ∧ row.length ≤ 1024
  hn : rows.length < 1000000000
  hk : (held.map (·.1)).Nodup
  hm : H m = some (.blk [if rids = [] then .sl .nil 0 [] else .ms cid 0 rids.length 1, i64 locks, .mm hid])
  hh : H hid = some (.map (held.map fun x => (.int .i64 x.1, i64 x.2)))
  hc : rids ≠ [] → H cid = some (.blk (List.zipWith (fun rid row => .ms rid 0 (List.length row) 1) rids rows))
  hl : rids.length = rows.length
  hr : ∀ (i rid : Nat) (row : List Int), rids[i]? = some rid → rows[i]? = some row → H rid = some (.blk (row.map fun n => i64 n))
  nd : (m :: hid :: (if rids = [] then [] else cid :: rids)).Nodup

def Glob.row (x : Glob) : List Int := List.replicate x.size.toNat x.first

/-- What New answers. -/
def NewAns (l : List Glob) (locks : Int) (r : AV) (H : AHeap) : Prop :=
  if l.any Glob.bad = true then r = .tup [.lit (.pointer none), i64 4]
  else if locks < 0 ∨ 256 < locks then r = .tup [.lit (.pointer none), i64 1]
  else ∃ m hid cid rids, r = .tup [.mp m 0, i64 0] ∧ IsMem H m hid cid rids (l.map Glob.row) locks []

/-- A memory that is being made. -/
structure Making (H : AHeap) (N m : Nat) (rows : List (List Int)) (locks : Int) : Prop where
  ex : ∃ hid cid rids, IsMem H m hid cid rids rows locks [] ∧ ∀ id ∈ (m :: hid :: (if rids = [] then [] else cid :: rids)), id < N

theorem zip_snoc {f : Nat → List Int → AV} {a : List Nat} {b : List (List Int)} (h : a.length = b.length) (x : Nat) (y : List Int) : List.zipWith f (a ++ [x]) (b ++ [y]) = List.zipWith f a b ++ [f x y] := by
  rw [List.zipWith_append h]; rfl

/-- One row more. -/
theorem isMem_grow {H : AHeap} {N m hid cid : Nat} {rids : List Nat} {rows : List (List Int)} {locks : Int} (hM : IsMem H m hid cid rids rows locks [])
    (hlt : ∀ id ∈ (m :: hid :: (if rids = [] then [] else cid :: rids)), id < N) (row : List Int) {H' : AHeap} (hrow : 1 ≤ row.length ∧ row.length ≤ 1024) (hn' : rows.length + 1 < 1000000000)
    (h1 : H' m = some (.blk [.ms (N + 2) 0 (rids.length + 1) 1, i64 locks, .mm hid])) (h2 : H' (N + 2) = some (.blk (List.zipWith (fun rid row => AV.ms rid 0 (List.length row) 1) rids rows ++ [.ms (N + 1) 0 row.length 1])))
    (h3 : H' (N + 1) = some (.blk (row.map fun n => i64 n))) (h4 : ∀ id, id < N → id ≠ m → (rids ≠ [] → id ≠ cid) → H' id = H id) :
    IsMem H' m hid (N + 2) (rids ++ [N + 1]) (rows ++ [row]) locks [] ∧ ∀ id ∈ (m :: hid :: (if rids ++ [N + 1] = [] then [] else (N + 2) :: (rids ++ [N + 1]))), id < N + 3 := by
  have hnd := hM.nd
  have hne : rids ++ [N + 1] ≠ [] := by simp
  have hm := hlt m (by simp)
  have hh := hlt hid (by simp)
  have hr : ∀ r ∈ rids, r < N ∧ r ≠ m ∧ r ≠ hid ∧ r ≠ cid := fun r hr => by
    have : rids ≠ [] := by intro h; rw [h] at hr; cases hr
    rw [if_neg this] at hlt hnd
    refine ⟨hlt r (by simp [hr]), ?_, ?_, ?_⟩
    · intro h; subst h; simp [hr] at hnd
    · intro h; subst h; simp [hr] at hnd
    · intro h; subst h; simp [hr] at hnd
  have hmh : m ≠ hid := by intro h; subst h; simp at hnd
  have hndr : rids.Nodup := by
    by_cases h : rids = []
    · rw [h]; simp
    · rw [if_neg h] at hnd; simp at hnd; exact hnd.2.2.2
  refine ⟨⟨fun x hx => ?_, by simpa using hn', hM.hk, ?_, ?_, fun _ => ?_, by simp [hM.hl], fun i rid row' hi hrow => ?_, ?_⟩, ?_⟩
  · rcases List.mem_append.1 hx with hx | hx
    · exact hM.hb x hx
    · simp at hx; subst hx; exact hrow
  · rw [if_neg hne, h1]; simp
  · rw [h4 hid hh (Ne.symm hmh) (fun h => by rw [if_neg h] at hnd; simp at hnd; exact hnd.2.1.1), hM.hh]
  · rw [h2, zip_snoc hM.hl]
  · by_cases h : i < rids.length
    · rw [List.getElem?_append_left h] at hi
      rw [List.getElem?_append_left (by rw [← hM.hl]; exact h)] at hrow
      obtain ⟨g1, g2, g3, g4⟩ := hr rid (List.mem_of_getElem? hi)
      rw [h4 rid g1 g2 (fun _ => g4)]
      exact hM.hr i rid row' hi hrow
    · have hlen : i < (rids ++ [N + 1]).length := (List.getElem?_eq_some_iff.1 hi).1
      simp at hlen
      obtain rfl : i = rids.length := by omega
      simp at hi
      rw [hM.hl] at hrow
      simp at hrow
      subst hi; subst hrow
      exact h3
  · rw [if_neg hne]
    simp only [List.nodup_cons, List.mem_cons, List.mem_append, List.nodup_append, List.not_mem_nil, or_false, not_or, List.nodup_nil, not_false_eq_true, and_true, true_and]
    refine ⟨⟨hmh, by omega, fun h => (hr m h).2.1 rfl, by omega⟩, ⟨by omega, fun h => (hr hid h).2.2.1 rfl, by omega⟩, ⟨fun h => by have := (hr _ h).1; omega, by omega⟩, hndr, ?_⟩
    intro a ha b hb
    have := (hr a ha).1
    omega
  · rw [if_neg hne]
    intro id hid'
    simp only [List.mem_cons, List.mem_append, List.not_mem_nil, or_false] at hid'
    rcases hid' with rfl | rfl | rfl | h | rfl
    · omega
    · omega
    · omega
    · have := (hr id h).1; omega
    · omega

theorem p20 (k : SK) (l : List Glob) (hl : l.length < 1000000000) (locks : Int) (N : Nat) : ACall Try.prog 20 [.sl k 3 (l.map Glob.cells), i64 locks] noHeap N (fun r H' N' => NewAns l locks r H') := by
  refine acall mixed c20 (by simp) ?_
  simp [a20]
  refine (p37 k l (by omega) N noHeap).mono ?_
  rintro r H' N' ⟨rfl, rfl, rfl⟩
  simp
  cases hb : l.any Glob.bad with
  | true => simp; unfold NewAns; rw [if_pos hb]
  | false =>
    by_cases h0 : locks < 0
    · simp [h0]; unfold NewAns; rw [if_neg (by simp [hb]), if_pos (.inl h0)]
    · by_cases h1 : 256 < locks
      · simp [h0, h1]; unfold NewAns; rw [if_neg (by simp [hb]), if_pos (.inr h1)]
      · simp [h0, h1]
        refine run_loop (fun m s => ∃ j, j ≤ l.length ∧ m = l.length - j ∧ s.A 6 = .mp (N' + 1) 0 ∧ s.A 23 = .sl k 3 (l.map Glob.cells) ∧ s.A 24 = i64 l.length ∧ s.A 25 = i64 j ∧ Making s.H s.N (N' + 1) ((l.take j).map Glob.row) locks) l.length ?_ ?_
        · refine ⟨0, by omega, by omega, by simp, by simp, by simp, by simp, ⟨N', 0, [], ⟨by simp, by simp, by simp, ?_, ?_, by simp, by simp, by simp, by simp⟩, ?_⟩⟩
          · simp
          · simp
          · simp; omega
        · rintro m A H N1 ⟨j, hj1, rfl, h6, h23, h24, h25, hid, cid, rids, hM, hlt⟩
          simp at h6 h23 h24 h25 hM hlt
          by_cases hjk : j = l.length
          · subst hjk
            simp [h24, h25, h6]
            unfold NewAns
            rw [if_neg (by simp [hb]), if_neg (by omega)]
            exact ⟨_, _, _, _, rfl, by simpa [List.take_of_length_le] using hM⟩
          · have hjl : j < l.length := by omega
            have hix : aindex 3 (.sl k 3 (l.map Glob.cells)) (i64 j) = some (.ip l[j].cells 0) := by simp [aindex, hjl]
            have hsp : splice 0 [.lit (.string l[j].name), i64 l[j].size, i64 l[j].first] [AV.lit (Value.string ⟨#[]⟩), AV.lit (Value.int .i64 0), AV.lit (Value.int .i64 0)] = [.lit (.string l[j].name), i64 l[j].size, i64 l[j].first] := by simp [splice]
            simp [h24, h25, h23, h6, hjl, hix, Glob.cells, hsp, hM.hm, show N' + 1 ≠ N1 by omega]
            have hg : l[j].bad = false := by
              cases h : l[j].bad with
              | false => rfl
              | true => have := List.any_eq_true.2 ⟨l[j], List.getElem_mem hjl, h⟩; rw [hb] at this; cases this
            simp [Glob.bad] at hg
            obtain ⟨q, hq⟩ : ∃ q : Nat, l[j].size = q := ⟨l[j].size.toNat, by omega⟩
            rw [hq]
            refine (p39' l[j].first q (by omega) (by omega) (N1 + 1) _).mono ?_
            rintro r H1 N2 ⟨rfl, rfl, rfl, hk⟩
            refine ⟨hk, ?_⟩
            have hrow : l[j].row = List.replicate q l[j].first := by simp [Glob.row, hq]
            have hrows : List.take (j + 1) (List.map Glob.row l) = List.take j (List.map Glob.row l) ++ [List.replicate q l[j].first] := by
              rw [List.take_add_one]; simp [hjl, hrow]
            have hrl : rids.length = j := by rw [hM.hl]; simp; omega
            have hlt' : ∀ id ∈ ((N' + 1) :: hid :: (if rids = [] then [] else cid :: rids)), id < N1 := by simpa using hlt
            have hidm : hid ≠ N' + 1 := by intro h; have := hM.nd; subst h; simp at this
            have fin : ∀ H' : AHeap, IsMem H' (N' + 1) hid (N1 + 2) (rids ++ [N1 + 1]) (List.take (j + 1) (List.map Glob.row l)) locks [] ∧ (∀ id ∈ ((N' + 1) :: hid :: (if rids ++ [N1 + 1] = [] then [] else (N1 + 2) :: (rids ++ [N1 + 1]))), id < N1 + 3) →
                ∃ m, m < l.length - j ∧ ∃ j_1, j_1 ≤ l.length ∧ m = l.length - j_1 ∧ IntKind.i64.wrap ((j : Int) + 1) = j_1 ∧ Making H' (N1 + 1 + 1 + 1) (N' + 1) (List.take j_1 (List.map Glob.row l)) locks := fun H' hh =>
              ⟨l.length - (j + 1), by omega, j + 1, by omega, rfl, by rw [wrap_i64 (by omega) (by omega)]; rfl, ⟨_, _, _, hh.1, hh.2⟩⟩
            have d1 : N' ≠ N1 := by omega
            have d2 : N' ≠ N1 + 1 := by omega
            have d3 : N' + 1 ≠ N1 := by omega
            by_cases hr0 : rids = []
            · subst hr0
              simp at hrl
              simp [aappend, lim, hM.hm, d1, d2, d3, h23, h24, h25, h6]
              refine fin _ ?_
              rw [hrows]
              refine isMem_grow hM hlt' _ (by simp; omega) (by simp; omega) ?_ ?_ ?_ ?_
              · simp
              · have : List.take j (List.map Glob.row l) = [] := by rw [← hrl]; rfl
                simp [this]; omega
              · simp; omega
              · intro id h1 h2 _
                simp [h2, show id ≠ N1 by omega, show id ≠ N1 + 1 by omega, show id ≠ N1 + 2 by omega]
            · have hcm : cid ≠ N' + 1 := by intro h; have := hM.nd; subst h; rw [if_neg hr0] at this; simp at this
              have hcN : cid < N1 := hlt.2.2 cid hr0 (.inl rfl)
              have d4 : cid ≠ N1 := by omega
              have d5 : cid ≠ N1 + 1 := by omega
              have hzl : (List.zipWith (fun rid row => AV.ms rid 0 (List.length row) 1) rids (List.take j (List.map Glob.row l))).length = rids.length := by simp; omega
              simp [hr0, aappend, lim, hM.hc hr0, d4, d5]
              rw [if_pos ⟨by omega, by omega, by omega⟩]
              have hdel : ∀ (H : AHeap) (a i : Nat), (H.del a) i = if i = a then none else H i := fun _ _ _ => rfl
              simp [hdel, hM.hm, d1, d2, d3, Ne.symm hcm, h23, h24, h25, h6, hr0]
              refine fin _ ?_
              rw [hrows]
              rw [List.take_of_length_le (by omega)]
              refine isMem_grow hM hlt' _ (by simp; omega) (by simp; omega) ?_ ?_ ?_ ?_
              · simp
              · simp; omega
              · simp [Ne.symm d5, Ne.symm d1, hdel]
              · intro id h1 h2 h3
                simp [h2, h3 hr0, show id ≠ N1 by omega, show id ≠ N1 + 1 by omega, show id ≠ N1 + 2 by omega, hdel]

end Go.Proofs.Ytmgmgeijfkcglaa
