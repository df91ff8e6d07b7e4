/- Who holds what, by the memory and by the reference: plain law. -/
import Derived.Test.YtmgmgeijfkcglaaB7
import Derived.Test.YtmgmgeijfkcglaaAC
namespace Go.Proofs.Ytmgmgeijfkcglaa
set_option linter.unusedSimpArgs false
set_option linter.unusedVariables false
open Go Go.Fw
/-- The same is held by the same. -/
structure Rel (locks : Int) (held : List (Int × Int)) (fl : List Bool) (by_ : List Int) : Prop where
  len : (fl.length : Int) = locks
  hlen : by_.length = fl.length
  in_ : ∀ k v, holder held k = some v → 0 ≤ k ∧ k < locks
  eq : ∀ k : Nat, k < fl.length → holder held k = if fl.getD k false = true then some (by_.getD k 0) else none
  zero : ∀ k : Nat, fl.getD k false = false → by_.getD k 0 = 0
  r64 : ∀ p ∈ held, In64 p.1 ∧ In64 p.2
section
variable {locks : Int} {held : List (Int × Int)} {fl : List Bool} {by_ : List Int}
theorem Rel.err (h : Rel locks held fl by_) (l : Int) : lockErr locks l = rErr fl l := by
  unfold lockErr rErr
  rw [h.len]
theorem Rel.at_ (h : Rel locks held fl by_) {l : Int} (he : rErr fl l = 0) : ∃ k : Nat, l = k ∧ k < fl.length ∧ holder held l = if fl.getD k false = true then some (by_.getD k 0) else none := by
  unfold rErr at he
  split at he
  · cases he
  · rename_i hn
    refine ⟨l.toNat, by omega, by omega, ?_⟩
    have := h.eq l.toNat (by omega)
    rwa [show ((l.toNat : Nat) : Int) = l by omega] at this
theorem Rel.out (h : Rel locks held fl by_) {l : Int} (he : rErr fl l ≠ 0) : holder held l = none := by
  cases hh : holder held l with
  | none => rfl
  | some v =>
    have := h.in_ l v hh
    have hl := h.len
    unfold rErr at he
    split at he
    · omega
    · exact absurd rfl he
theorem Rel.take (h : Rel locks held fl by_) (l : Int) : takeErr locks held l = rTake fl l := by
  unfold takeErr rTake
  rw [h.err]
  by_cases he : rErr fl l = 0
  · obtain ⟨k, rfl, hk, hh⟩ := h.at_ he
    rw [hh]
    by_cases hb : fl.getD k false = true
    · simp only [he, Int.toNat_natCast, hb, if_true]; simp
    · simp only [he, Int.toNat_natCast, hb, if_false]; simp
  · simp [he]
theorem Rel.give (h : Rel locks held fl by_) (l who : Int) : giveErr locks held l who = rGive fl by_ l who := by
  unfold giveErr rGive
  rw [h.err]
  by_cases he : rErr fl l = 0
  · obtain ⟨k, rfl, hk, hh⟩ := h.at_ he
    rw [hh]
    by_cases hb : fl.getD k false = true
    · simp only [he, Int.toNat_natCast, hb, if_true]; simp
    · simp only [he, Int.toNat_natCast, hb, if_false]; simp
  · simp [he]
theorem Rel.holder1 (h : Rel locks held fl by_) (l : Int) : (holder held l).getD 0 = (if rErr fl l = 0 ∧ fl.getD l.toNat false = true then by_.getD l.toNat 0 else 0) ∧ (holder held l).isSome = decide (rErr fl l = 0 ∧ fl.getD l.toNat false = true) := by
  by_cases he : rErr fl l = 0
  · obtain ⟨k, rfl, hk, hh⟩ := h.at_ he
    rw [hh]
    simp only [he, Int.toNat_natCast, true_and]
    cases fl.getD k false <;> simp
  · rw [h.out he]
    simp [he]
theorem holder_takeL {a w z : Int} : holder (takeHeld locks held a w) z = if a = z ∧ takeErr locks held a = 0 then some w else holder held z := by
  unfold takeHeld
  by_cases h : takeErr locks held a = 0
  · rw [if_pos h, find_append]
    by_cases ha : a = z
    · subst ha
      have hn : holder held a = none := by
        unfold takeErr at h
        split at h
        · exact absurd h (by assumption)
        · split at h
          · cases h
          · rename_i hs; simpa using hs
      simp [h, hn]
    · have : (a == z) = false := by simpa using ha
      simp [ha, this]
  · simp [h]
theorem holder_giveL {a w z : Int} : holder (giveHeld locks held a w) z = if a = z ∧ giveErr locks held a w = 0 then none else holder held z := by
  unfold giveHeld
  by_cases h : giveErr locks held a w = 0
  · rw [if_pos h]
    unfold holder
    rw [List.find?_filter]
    by_cases ha : a = z
    · subst ha
      simp [h]
    · simp only [ha, false_and, if_false]
      congr 1
      congr 1
      funext x
      by_cases hx : x.1 = z
      · subst hx; simp [Ne.symm ha]
      · simp [hx]
  · simp [h]
theorem err_ok {l : Int} (h : rErr fl l = 0) : ∃ k : Nat, l = k ∧ k < fl.length := by
  unfold rErr at h
  by_cases hc : l < 0 ∨ (fl.length : Int) ≤ l
  · rw [if_pos hc] at h; cases h
  · exact ⟨l.toNat, by omega, by omega⟩
theorem take_ok {l : Int} (h : rTake fl l = 0) : ∃ k : Nat, l = k ∧ k < fl.length ∧ fl.getD k false = false := by
  unfold rTake at h
  by_cases h0 : rErr fl l = 0
  · obtain ⟨k, rfl, hk⟩ := err_ok h0
    rw [if_neg (by simp [h0]), Int.toNat_natCast] at h
    refine ⟨k, rfl, hk, ?_⟩
    cases hb : fl.getD k false with
    | false => rfl
    | true => rw [hb, if_pos rfl] at h; cases h
  · rw [if_pos h0] at h; exact absurd h h0
theorem give_ok {l who : Int} (h : rGive fl by_ l who = 0) : ∃ k : Nat, l = k ∧ k < fl.length ∧ fl.getD k false = true ∧ by_.getD k 0 = who := by
  unfold rGive at h
  by_cases h0 : rErr fl l = 0
  · obtain ⟨k, rfl, hk⟩ := err_ok h0
    rw [if_neg (by simp [h0]), Int.toNat_natCast] at h
    by_cases hb : fl.getD k false = true ∧ by_.getD k 0 = who
    · exact ⟨k, rfl, hk, hb.1, hb.2⟩
    · rw [if_neg hb] at h; cases h
  · rw [if_pos h0] at h; exact absurd h h0
theorem getD_set_ne {α : Type} {l : List α} {k j : Nat} (h : ¬ k = j) (x d : α) : (l.set k x).getD j d = l.getD j d := by
  simp only [List.getD, List.getElem?_set, if_neg h]
theorem Rel.taken (h : Rel locks held fl by_) {l who : Int} (hl : In64 l) (hw : In64 who) : Rel locks (takeHeld locks held l who) (if rTake fl l = 0 then fl.set l.toNat true else fl) (if rTake fl l = 0 then by_.set l.toNat who else by_) := by
  by_cases he : rTake fl l = 0
  · rw [if_pos he, if_pos he]
    obtain ⟨k, rfl, hk, hf⟩ := take_ok he
    have ht := h.take (k : Int)
    rw [he] at ht
    have hby : k < by_.length := by rw [h.hlen]; exact hk
    refine ⟨by simp [h.len], by simp [h.hlen], fun z v hz => ?_, fun j hj => ?_, fun j hj => ?_, fun p hp => ?_⟩
    · rw [holder_takeL] at hz
      split at hz
      · rename_i hc
        rw [← hc.1]
        have := h.len
        omega
      · exact h.in_ z v hz
    · rw [holder_takeL]
      simp only [Int.toNat_natCast, List.length_set] at hj ⊢
      by_cases hkj : k = j
      · subst hkj
        rw [if_pos ⟨rfl, ht⟩]
        simp [List.getD, hk, hby]
      · rw [if_neg (fun hc => hkj (by omega)), h.eq j hj, getD_set_ne hkj, getD_set_ne hkj]
    · simp only [Int.toNat_natCast] at hj ⊢
      by_cases hkj : k = j
      · subst hkj
        simp [List.getD, hk] at hj
      · simp only [List.getD, List.getElem?_set, if_neg hkj] at hj ⊢
        exact h.zero j hj
    · unfold takeHeld at hp
      rw [if_pos ht] at hp
      rcases List.mem_append.1 hp with hp | hp
      · exact h.r64 p hp
      · rw [List.mem_singleton] at hp
        subst hp
        exact ⟨hl, hw⟩
  · rw [if_neg he, if_neg he]
    have : takeHeld locks held l who = held := by unfold takeHeld; rw [if_neg (by rw [h.take]; exact he)]
    rw [this]
    exact h
theorem Rel.given (h : Rel locks held fl by_) {l who : Int} : Rel locks (giveHeld locks held l who) (if rGive fl by_ l who = 0 then fl.set l.toNat false else fl) (if rGive fl by_ l who = 0 then by_.set l.toNat 0 else by_) := by
  by_cases he : rGive fl by_ l who = 0
  · rw [if_pos he, if_pos he]
    obtain ⟨k, rfl, hk, hf, hw⟩ := give_ok he
    have ht := h.give (k : Int) who
    rw [he] at ht
    have hby : k < by_.length := by rw [h.hlen]; exact hk
    refine ⟨by simp [h.len], by simp [h.hlen], fun z v hz => ?_, fun j hj => ?_, fun j hj => ?_, fun p hp => ?_⟩
    · rw [holder_giveL] at hz
      split at hz
      · cases hz
      · exact h.in_ z v hz
    · rw [holder_giveL]
      simp only [Int.toNat_natCast, List.length_set] at hj ⊢
      by_cases hkj : k = j
      · subst hkj
        rw [if_pos ⟨rfl, ht⟩]
        simp [List.getD, hk]
      · rw [if_neg (fun hc => hkj (by omega)), h.eq j hj, getD_set_ne hkj, getD_set_ne hkj]
    · simp only [Int.toNat_natCast] at hj ⊢
      by_cases hkj : k = j
      · subst hkj
        simp [List.getD, hby]
      · simp only [List.getD, List.getElem?_set, if_neg hkj] at hj ⊢
        exact h.zero j hj
    · unfold giveHeld at hp
      rw [if_pos ht] at hp
      exact h.r64 p (List.mem_filter.1 hp).1
  · rw [if_neg he, if_neg he]
    have : giveHeld locks held l who = held := by unfold giveHeld; rw [if_neg (by rw [h.give]; exact he)]
    rw [this]
    exact h
theorem rel_start {L : Nat} : Rel L [] (List.replicate L false) (List.replicate L 0) := by
  refine ⟨by simp, by simp, fun k v h => (by simp [holder] at h), fun k hk => ?_, fun k _ => ?_, fun p hp => (by simp at hp)⟩
  · simp at hk
    simp [holder, List.getD, hk]
  · by_cases hk : k < L <;> simp [List.getD, hk]
theorem sub_len {α : Type} : ∀ {l m : List α}, l.Nodup → (∀ x ∈ l, x ∈ m) → l.length ≤ m.length
  | [], _, _, _ => by simp
  | a :: l, m, hn, hs => by
    rw [List.nodup_cons] at hn
    obtain ⟨s, t, rfl⟩ := List.append_of_mem (hs a (by simp))
    have := sub_len (l := l) (m := s ++ t) hn.2 fun x hx => by
      have := hs x (by simp [hx])
      simp only [List.mem_append, List.mem_cons] at this ⊢
      rcases this with h | rfl | h
      · exact .inl h
      · exact absurd hx hn.1
      · exact .inr h
    simp at this ⊢
    omega
theorem sub_eq {α : Type} {l m : List α} (hn : l.Nodup) (hs : ∀ x ∈ l, x ∈ m) (hl : m.length ≤ l.length) : ∀ x ∈ m, x ∈ l := fun x hx => Classical.byContradiction fun hc => by
  have := sub_len (l := x :: l) (m := m) (List.nodup_cons.2 ⟨hc, hn⟩) fun y hy => by
    rcases List.mem_cons.1 hy with rfl | hy
    · exact hx
    · exact hs y hy
  simp at this
  omega
theorem nodup_fst {l : List (Int × Int)} (h : (l.map (·.1)).Nodup) : l.Nodup := (List.pairwise_map.1 h).imp fun hne he => hne (by rw [he])
/-- Where the memories are the same, so are the reference's. -/
theorem Rel.same {held2 : List (Int × Int)} {fl2 : List Bool} {by2 : List Int} (h : Rel locks held fl by_) (h2 : Rel locks held2 fl2 by2) (n1 : (held.map (·.1)).Nodup) (n2 : (held2.map (·.1)).Nodup) : mapEq held held2 = (decide (fl = fl2) && decide (by_ = by2)) := by
  have hlen : fl.length = fl2.length := by have := h.len; have := h2.len; omega
  have hold : ∀ {l : List (Int × Int)}, (l.map (·.1)).Nodup → ∀ p ∈ l, holder l p.1 = some p.2 := fun {l} => by
    induction l with
    | nil => intro _ p hp; simp at hp
    | cons q l ih =>
      intro hn p hp
      rw [List.map_cons, List.nodup_cons] at hn
      rcases List.mem_cons.1 hp with rfl | hp
      · simp [holder]
      · have hne : q.1 ≠ p.1 := fun he => hn.1 (by rw [he]; exact List.mem_map.2 ⟨p, hp, rfl⟩)
        have := ih hn.2 p hp
        unfold holder at this ⊢
        rw [List.find?_cons]
        simp only [beq_iff_eq, hne, beq_eq_false_iff_ne.2 hne]
        exact this
  have back : ∀ {l : List (Int × Int)} {k v : Int}, holder l k = some v → (k, v) ∈ l := fun {l k v} hh => by
    unfold holder at hh
    rw [Option.map_eq_some_iff] at hh
    obtain ⟨p, hp, rfl⟩ := hh
    have h1 := List.mem_of_find?_eq_some hp
    have h3 := List.find?_some hp
    simp only [beq_iff_eq] at h3
    subst h3
    exact h1
  have allEq : (fl = fl2 ∧ by_ = by2) ↔ ∀ k, holder held k = holder held2 k := by
    constructor
    · rintro ⟨rfl, rfl⟩ k
      by_cases he : rErr fl k = 0
      · obtain ⟨j, rfl, hj, e⟩ := h.at_ he
        rw [e, h2.eq j hj]
      · rw [h.out he, h2.out he]
    · intro hk
      have hf : ∀ j, fl.getD j false = fl2.getD j false := fun j => by
        by_cases hj : j < fl.length
        · have e1 := h.eq j hj
          have e2 := h2.eq j (by omega)
          rw [hk, e2] at e1
          cases a : fl.getD j false <;> cases b : fl2.getD j false <;> first | rfl | (rw [a, b] at e1; simp at e1)
        · simp [List.getD, List.getElem?_eq_none (show fl.length ≤ j by omega), List.getElem?_eq_none (show fl2.length ≤ j by omega)]
      have hb : ∀ j, by_.getD j 0 = by2.getD j 0 := fun j => by
        cases a : fl.getD j false with
        | false => rw [h.zero j a, h2.zero j (by rw [← hf j, a])]
        | true =>
          have hj : j < fl.length := Classical.byContradiction fun hn => by
            simp [List.getD, List.getElem?_eq_none (show fl.length ≤ j by omega)] at a
          have e1 := h.eq j hj
          have e2 := h2.eq j (by omega)
          rw [hk, e2, ← hf j, a] at e1
          simpa using e1.symm
      have ext : ∀ {α : Type} {l m : List α} (d : α), l.length = m.length → (∀ j, l.getD j d = m.getD j d) → l = m := fun {α l m} d h1 h2 => List.ext_getElem h1 fun j a b => by
        have := h2 j
        simpa [List.getD, a, b] using this
      exact ⟨ext false hlen hf, ext 0 (by rw [h.hlen, h2.hlen, hlen]) hb⟩
  rw [Bool.eq_iff_iff]
  simp only [Bool.and_eq_true, decide_eq_true_eq]
  rw [allEq]
  unfold mapEq
  simp only [Bool.and_eq_true, decide_eq_true_eq, List.all_eq_true]
  constructor
  · rintro ⟨hl, hs⟩ k
    have hb := sub_eq (nodup_fst n1) hs (by omega)
    cases a : holder held k with
    | some v => exact (hold n2 (k, v) (hs _ (back a))).symm
    | none =>
      cases b : holder held2 k with
      | none => rfl
      | some v =>
        have := hold n1 (k, v) (hb _ (back b))
        rw [a] at this
        cases this
  · intro hk
    have s1 : ∀ p ∈ held, p ∈ held2 := fun p hp => by
      have := hold n1 p hp
      rw [hk] at this
      exact back this
    have s2 : ∀ p ∈ held2, p ∈ held := fun p hp => by
      have := hold n2 p hp
      rw [← hk] at this
      exact back this
    exact ⟨Nat.le_antisymm (sub_len (nodup_fst n1) s1) (sub_len (nodup_fst n2) s2), s1⟩
end
end Go.Proofs.Ytmgmgeijfkcglaa
