/- flow: blocks whose From grows: each in memory of its own. -/
import Derived.Test.YtcoepjbipbihfaaGreatDoorVW
namespace Go.Proofs.YtcoepjbipbihfaaGreatDoor
set_option linter.unusedSimpArgs false
set_option linter.unusedVariables false
open Go Go.Fw

/-- Blocks in memory: what stands in their From. -/
structure FroAt (H : AHeap) (lo o m : Nat) (L : Nat → List Int) (cs : List AV) : Prop where
  at_ : H o = some (.blk cs)
  len : cs.length = m * 4
  olo : o < lo
  row : ∀ n, n < m → ∃ a, cs[n * 4 + 2]? = some a ∧ Built H lo 1 (.sl .nil 0 []) (intCells (L n)) a
  apart : ∀ (n n' id k k' : Nat), n < m → n' < m → cs[n * 4 + 2]? = some (.ms id 0 k 1) → cs[n' * 4 + 2]? = some (.ms id 0 k' 1) → n = n'

theorem FroAt.keep {H H' : AHeap} {lo o m : Nat} {L : Nat → List Int} {cs : List AV} (h : FroAt H lo o m L cs) (hk : ∀ j, (j = o ∨ lo ≤ j) → H' j = H j) : FroAt H' lo o m L cs where
  at_ := by rw [hk o (.inl rfl)]; exact h.at_
  len := h.len
  olo := h.olo
  row := fun n hn => by
    obtain ⟨a, h1, h2⟩ := h.row n hn
    exact ⟨a, h1, h2.keep fun j hj => hk j (.inr hj)⟩
  apart := h.apart

/-- The list of one is longer by one. -/
def upL (L : Nat → List Int) (t : Nat) (v : Int) : Nat → List Int := fun n => if n = t then L n ++ [v] else L n
theorem FroAt.push {H : AHeap} {lo o m N t : Nat} {L : Nat → List Int} {cs : List AV} (h : FroAt H lo o m L cs) (hF : Fresh H N) (hlo : lo ≤ N) (ht : t < m) (hl : (L t).length ≤ 1000000000) (v : Int) :
    ∃ a H', cs[t * 4 + 2]? = some a ∧ a.cells = some [a] ∧ aappend false 1 8 H N a (.sl .exact 1 [[i64 v]]) = some (.ms N 0 ((L t).length + 1) 1, H', N + 1) ∧ H' o = some (.blk cs) ∧ (∀ j, j < lo → H' j = H j) ∧ Fresh H' (N + 1) ∧
      FroAt (H'.set o (.blk (cs.set (t * 4 + 2) (.ms N 0 ((L t).length + 1) 1)))) lo o m (upL L t v) (cs.set (t * 4 + 2) (.ms N 0 ((L t).length + 1) 1)) := by
  obtain ⟨a, ha, hB⟩ := h.row t ht
  have hcl : t * 4 + 2 < cs.length := by have := h.len; omega
  obtain ⟨H', happ, hN, hold, hF', hB'⟩ := push_raw (bytes := 8) (k := .exact) (x := [i64 v]) hB hF hlo rfl (by rw [intCells_len]; unfold lim; omega) (by rw [intCells_len]; omega)
  rw [intCells_len] at happ hB'
  have hlow : ∀ j, j < lo → H' j = H j := fun j hj => hold j (by omega) fun n he => by
    rw [he] at hB
    obtain ⟨_, ⟨_, h2, _⟩ | ⟨_, id, hid, h2, _⟩⟩ := hB
    · cases h2
    · cases h2; omega
  have hoN : o ≠ N := by have := h.olo; omega
  have keep : ∀ {es : List (List AV)} {x : AV}, Built H' lo 1 (.sl .nil 0 []) es x → Built (H'.set o (.blk (cs.set (t * 4 + 2) (.ms N 0 ((L t).length + 1) 1)))) lo 1 (.sl .nil 0 []) es x := fun hb => hb.keep fun j hj => by
    have := h.olo
    simp only [AHeap.set]; rw [if_neg (by omega)]
  refine ⟨a, H', ha, hB.rd.cells, happ, (hlow o h.olo).trans h.at_, hlow, hF', ⟨by simp [AHeap.set], by simp [h.len], h.olo, fun n hn => ?_, fun c1 c2 id n n' l1 l2 h1 h2 => ?_⟩⟩
  · by_cases hnt : n = t
    · subst hnt
      refine ⟨_, List.getElem?_set_self hcl, ?_⟩
      rw [show upL L n v n = L n ++ [v] from if_pos rfl, intCells_app]
      exact keep hB'
    · obtain ⟨b, hb, hbb⟩ := h.row n hn
      refine ⟨b, by rw [List.getElem?_set_ne (by omega)]; exact hb, ?_⟩
      rw [show upL L t v n = L n from if_neg hnt]
      refine keep ?_
      obtain ⟨b1, b2⟩ := hbb
      refine ⟨b1, b2.imp id ?_⟩
      rintro ⟨hne, i, hi, rfl, hHi⟩
      refine ⟨hne, i, hi, rfl, ?_⟩
      rw [hold i (by have := hF.lt hHi; omega) fun k he => ?_]
      · exact hHi
      · rw [he] at ha
        exact hnt (h.apart n t i _ k hn ht hb ha)
  · have hnoN : ∀ (c' n : Nat), c' < m → cs[c' * 4 + 2]? ≠ some (.ms N 0 n 1) := fun c' n hc he => by
      obtain ⟨b, hb, hbb⟩ := h.row c' hc
      rw [hb] at he
      cases he
      obtain ⟨_, ⟨_, h2, _⟩ | ⟨_, i, _, h2, h3⟩⟩ := hbb
      · cases h2
      · cases h2; have := hF.lt h3; omega
    by_cases e1 : c1 = t
    · by_cases e2 : c2 = t
      · exact e1.trans e2.symm
      · subst e1
        rw [List.getElem?_set_self hcl] at h1
        rw [List.getElem?_set_ne (by omega)] at h2
        cases h1
        exact absurd h2 (hnoN _ _ l2)
    · by_cases e2 : c2 = t
      · subst e2
        rw [List.getElem?_set_self hcl] at h2
        rw [List.getElem?_set_ne (by omega)] at h1
        cases h2
        exact absurd h1 (hnoN _ _ l1)
      · rw [List.getElem?_set_ne (by omega)] at h1
        rw [List.getElem?_set_ne (by omega)] at h2
        exact h.apart c1 c2 id n n' l1 l2 h1 h2

/-- What From is when the blocks ahead of n, and k of its own To, have been gone through. -/
def froTo (l : List BlkV) (n k : Nat) (t : Nat) : List Int := (l.zipIdx.filter fun x => decide (x.2 < n ∧ (t : Int) ∈ x.1.to) || decide (x.2 = n ∧ (t : Int) ∈ x.1.to.take k)).map fun x => (x.2 : Int)
theorem froTo_end (l : List BlkV) (t : Nat) : froTo l l.length 0 t = fromsL l t := by
  unfold froTo fromsL
  congr 1
  refine List.filter_congr fun x hx => ?_
  obtain ⟨i, hi, he⟩ := List.getElem_of_mem hx
  simp only [List.getElem_zipIdx, Nat.zero_add] at he
  subst he
  simp only [List.length_zipIdx] at hi
  simp [hi]
theorem froTo_next (l : List BlkV) {n : Nat} (hn : n < l.length) (t : Nat) : froTo l n l[n].to.length t = froTo l (n + 1) 0 t := by
  unfold froTo
  congr 1
  refine List.filter_congr fun x hx => ?_
  obtain ⟨i, hi, he⟩ := List.getElem_of_mem hx
  simp only [List.getElem_zipIdx, Nat.zero_add] at he
  subst he
  simp only
  by_cases h1 : i < n
  · simp [h1, show i < n + 1 by omega, show ¬ i = n by omega]
  · by_cases h2 : i = n
    · subst h2
      simp
    · simp [h1, h2, show ¬ i < n + 1 by omega]
theorem froTo_len (l : List BlkV) (n k t : Nat) : (froTo l n k t).length ≤ l.length := by
  unfold froTo
  rw [List.length_map]
  refine Nat.le_trans (List.length_filter_le _ _) ?_
  simp
/-- The list in its two parts: the blocks ahead, and perhaps this one. -/
theorem froTo_split (l : List BlkV) {n : Nat} (hn : n < l.length) (k t : Nat) : froTo l n k t = froTo l n 0 t ++ (if (t : Int) ∈ l[n].to.take k then [(n : Int)] else []) := by
  have hl : l.zipIdx = (l.zipIdx.take n ++ [(l[n], n)]) ++ l.zipIdx.drop (n + 1) := by
    have h2 : n < l.zipIdx.length := by simpa using hn
    have := (List.take_append_drop (n + 1) l.zipIdx).symm
    rw [take_next h2] at this
    simpa using this
  have h1 : ∀ x ∈ l.zipIdx.take n, x.2 < n := fun x hx => by
    obtain ⟨i, hi, he⟩ := List.getElem_of_mem hx
    simp only [List.getElem_take, List.getElem_zipIdx, Nat.zero_add] at he
    subst he
    simp at hi
    show i < n
    omega
  have h3 : ∀ x ∈ l.zipIdx.drop (n + 1), n < x.2 := fun x hx => by
    obtain ⟨i, hi, he⟩ := List.getElem_of_mem hx
    simp only [List.getElem_drop, List.getElem_zipIdx, Nat.zero_add] at he
    subst he
    simp
    omega
  unfold froTo
  rw [hl]
  simp only [List.filter_append, List.map_append]
  have e1 : ∀ k, ((l.zipIdx.take n).filter fun x => decide (x.2 < n ∧ (t : Int) ∈ x.1.to) || decide (x.2 = n ∧ (t : Int) ∈ x.1.to.take k)) = (l.zipIdx.take n).filter fun x => decide ((t : Int) ∈ x.1.to) := fun k => List.filter_congr fun x hx => by
    have := h1 x hx
    simp [this, show ¬ x.2 = n by omega]
  have e3 : ∀ k, ((l.zipIdx.drop (n + 1)).filter fun x => decide (x.2 < n ∧ (t : Int) ∈ x.1.to) || decide (x.2 = n ∧ (t : Int) ∈ x.1.to.take k)) = [] := fun k => List.filter_eq_nil_iff.2 fun x hx => by
    have := h3 x hx
    simp [show ¬ x.2 < n by omega, show ¬ x.2 = n by omega]
  rw [e1 k, e1 0, e3 k, e3 0]
  by_cases hm : (t : Int) ∈ l[n].to.take k
  · simp [hm]
  · simp [hm]
theorem froTo_lt (l : List BlkV) (n t : Nat) : ∀ v ∈ froTo l n 0 t, v < (n : Int) := fun v hv => by
  unfold froTo at hv
  simp only [List.mem_map, List.mem_filter, List.take_zero, List.not_mem_nil, and_false, decide_false, Bool.or_false, decide_eq_true_eq] at hv
  obtain ⟨x, ⟨_, h1, _⟩, rfl⟩ := hv
  omega
/-- One of To more: whether the block stands last in the list already. -/
theorem froTo_more (l : List BlkV) {n k : Nat} (hn : n < l.length) (hk : k < l[n].to.length) (t : Nat) :
    froTo l n (k + 1) t = if l[n].to[k] = (t : Int) ∧ ¬ (froTo l n k t).getLast? = some (n : Int) then froTo l n k t ++ [(n : Int)] else froTo l n k t := by
  have hmem : (t : Int) ∈ l[n].to.take (k + 1) ↔ (t : Int) ∈ l[n].to.take k ∨ l[n].to[k] = (t : Int) := by
    rw [take_next hk, List.mem_append, List.mem_singleton]
    exact ⟨fun h => h.imp id Eq.symm, fun h => h.imp id Eq.symm⟩
  have hlast : (froTo l n k t).getLast? = some (n : Int) ↔ (t : Int) ∈ l[n].to.take k := by
    rw [froTo_split l hn k t]
    by_cases hm : (t : Int) ∈ l[n].to.take k
    · simp [hm]
    · simp only [hm, if_false, List.append_nil, iff_false]
      intro h
      have := froTo_lt l n t _ (List.mem_of_getLast? h)
      omega
  rw [froTo_split l hn (k + 1) t, froTo_split l hn k t] at *
  by_cases hm : (t : Int) ∈ l[n].to.take k
  · rw [if_pos hm] at hlast ⊢
    rw [if_pos (hmem.2 (.inl hm)), if_neg (fun h => h.2 (hlast.2 hm))]
  · rw [if_neg hm] at hlast ⊢
    by_cases he : l[n].to[k] = (t : Int)
    · rw [if_pos (hmem.2 (.inr he)), if_pos ⟨he, fun h => hm (hlast.1 h)⟩, List.append_nil]
    · rw [if_neg (fun h => (hmem.1 h).elim hm he), if_neg (fun h => he h.1)]
end Go.Proofs.YtcoepjbipbihfaaGreatDoor

/- flow: the blocks from which one comes are filled in; whether From and To fit, by the program. -/
namespace Go.Proofs.YtcoepjbipbihfaaGreatDoor
set_option linter.unusedSimpArgs false
set_option linter.unusedVariables false
open Go Go.Fw
theorem froTo_up {l : List BlkV} {n k tn : Nat} (hn : n < l.length) (hk : k < l[n].to.length) (ht : l[n].to[k] = (tn : Int)) (hc : ¬ (froTo l n k tn).getLast? = some (n : Int)) : froTo l n (k + 1) = upL (froTo l n k) tn n := by
  funext t
  rw [froTo_more l hn hk t, ht]
  unfold upL
  by_cases h : t = tn
  · subst h
    rw [if_pos ⟨rfl, hc⟩, if_pos rfl]
  · rw [if_neg (fun hh => h (by omega)), if_neg h]
theorem froTo_same {l : List BlkV} {n k tn : Nat} (hn : n < l.length) (hk : k < l[n].to.length) (ht : l[n].to[k] = (tn : Int)) (hc : (froTo l n k tn).getLast? = some (n : Int)) : froTo l n (k + 1) = froTo l n k := by
  funext t
  rw [froTo_more l hn hk t, ht]
  by_cases h : t = tn
  · subst h
    rw [if_neg (fun hh => hh.2 hc)]
  · rw [if_neg (fun hh => h (by omega))]

/-- What the To of blocks in memory read as. -/
def TosAt (H : AHeap) (lo o : Nat) (l : List BlkV) (cs : List AV) : Prop := ∀ n (hn : n < l.length), ∃ v, cs[n * 4 + 3]? = some v ∧ ∀ H' : AHeap, (∀ j, j < lo → j ≠ o → H' j = H j) → RdSl H' 1 (intCells l[n].to) v
/-- Only the From of blocks are others. -/
def OnlyFro (cs cs' : List AV) : Prop := ∀ i, i % 4 ≠ 2 → cs'[i]? = cs[i]?
theorem OnlyFro.refl (cs : List AV) : OnlyFro cs cs := fun _ _ => rfl
theorem OnlyFro.set {cs cs' : List AV} (h : OnlyFro cs cs') (t : Nat) (v : AV) : OnlyFro cs (cs'.set (t * 4 + 2) v) := fun i hi => by
  rw [List.getElem?_set_ne (by omega)]; exact h i hi

section
variable {l : List BlkV} {lo o n : Nat} {H0 H : AHeap} {N : Nat} {A : Nat → AV} {cs0 cs : List AV} {fs : List Fr} {Q : Post}

theorem from_b1 (hm : l.length ≤ 1000000000) (htl : ∀ b ∈ l, b.to.length ≤ 140737488355328) (htos : ∀ b ∈ l, ∀ t ∈ b.to, 0 ≤ t ∧ t < l.length) (hn : n < l.length) (hT : TosAt H0 lo o l cs0) (hA : FroAt H lo o l.length (froTo l n 0) cs) (hO : OnlyFro cs0 cs) (hold : ∀ j, j < lo → j ≠ o → H j = H0 j) (hF : Fresh H N) (hlo : lo ≤ N)
    (h0 : A 0 = .ms o 0 l.length 4) (h2 : A 2 = i64 n) (h15 : cs0[n * 4 + 3]? = some (A 15)) (h16 : A 16 = i64 l[n].to.length) (h17 : A 17 = i64 0)
    (hk : ∀ A' H' N' cs', (∀ t ∈ [0, 7, 8], A' t = A t) → FroAt H' lo o l.length (froTo l (n + 1) 0) cs' → OnlyFro cs0 cs' → (∀ j, j < lo → j ≠ o → H' j = H0 j) → Fresh H' N' → lo ≤ N' → onward Tryz.prog fs Q (.exit 2) ⟨A', H', N'⟩) :
    run Tryz.prog (.loop a_flow_fromb1) fs Q ⟨A, H, N⟩ := by
  have hbm : l[n] ∈ l := List.getElem_mem hn
  have htn := htl _ hbm
  refine run_loop (fun m s => ∃ k cs', k ≤ l[n].to.length ∧ m = l[n].to.length - k ∧ s.A 0 = .ms o 0 l.length 4 ∧ s.A 2 = i64 n ∧ s.A 7 = A 7 ∧ s.A 8 = A 8 ∧ s.A 15 = A 15 ∧ s.A 16 = i64 l[n].to.length ∧ s.A 17 = i64 k ∧ FroAt s.H lo o l.length (froTo l n k) cs' ∧ OnlyFro cs0 cs' ∧ (∀ j, j < lo → j ≠ o → s.H j = H0 j) ∧ Fresh s.H s.N ∧ lo ≤ s.N) l[n].to.length ?_ ?_
  · exact ⟨0, cs, by omega, by omega, h0, h2, rfl, rfl, rfl, h16, h17, hA, hO, hold, hF, hlo⟩
  · rintro m A1 H1 N1 ⟨k, c1, hkl, rfl, e0, e2, e7, e8, e15, e16, e17, hA1, hO1, hold1, hF1, hlo1⟩
    simp only at e0 e2 e7 e8 e15 e16 e17 hA1 hold1 hF1 hlo1
    by_cases hke : k = l[n].to.length
    · subst hke
      simp [a_flow_fromb1, e16, e17]
      refine hk _ _ _ c1 ?_ ?_ hO1 hold1 hF1 hlo1
      · simp [e0, e7, e8, h0]
      · have : froTo l n l[n].to.length = froTo l (n + 1) 0 := funext fun t => froTo_next l hn t
        rw [← this]; exact hA1
    · have hkt : k < l[n].to.length := by omega
      have htm := htos _ hbm _ (List.getElem_mem hkt)
      obtain ⟨tn, htn2⟩ : ∃ tn : Nat, l[n].to[k] = (tn : Int) := ⟨l[n].to[k].toNat, by omega⟩
      have htl2 : tn < l.length := by omega
      obtain ⟨v, hv1, hv2⟩ := hT n hn
      rw [h15] at hv1
      cases hv1
      obtain ⟨p, hp, pp⟩ := (hv2 H1 hold1).at (intCells_sz _) (intCells_at hkt)
      have lp := pp.one
      rw [htn2] at lp
      obtain ⟨a, ha, hB⟩ := hA1.row tn htl2
      have hll : ∀ (H' : AHeap), H' o = some (.blk c1) → aload H' false 1 (.mp o (tn * 4 + 2)) = some a := fun H' h => by simp [aload, apart, h, ha]
      have hld := hll H1 hA1.at_
      have hix : aindex 4 (.ms o 0 l.length 4) (i64 (tn : Nat)) = some (.mp o (tn * 4)) := by simp [aindex, htl2]
      have hlen := hB.rd.len
      rw [intCells_len] at hlen
      have hfl := froTo_len l n k tn
      have hw : IntKind.i64.wrap ((k : Int) + 1) = ((k + 1 : Nat) : Int) := by rw [wrap_i64 (by omega) (by omega)]; rfl
      obtain ⟨a', H2, ha', hac, happ, hH2o, hlow, hF2, hA2⟩ := hA1.push hF1 hlo1 htl2 (by omega) (n : Int)
      rw [ha] at ha'
      cases ha'
      have hdone : ¬ (froTo l n k tn).getLast? = some (n : Int) → ∃ m', m' < l[n].to.length - k ∧ ∃ k' cs', k' ≤ l[n].to.length ∧ m' = l[n].to.length - k' ∧ k' = k + 1 ∧ cs' = c1.set (tn * 4 + 2) (.ms N1 0 ((froTo l n k tn).length + 1) 1) ∧ FroAt (H2.set o (.blk (c1.set (tn * 4 + 2) (.ms N1 0 ((froTo l n k tn).length + 1) 1)))) lo o l.length (froTo l n k') cs' ∧ OnlyFro cs0 cs' ∧ (∀ j, j < lo → j ≠ o → (H2.set o (.blk (c1.set (tn * 4 + 2) (.ms N1 0 ((froTo l n k tn).length + 1) 1)))) j = H0 j) ∧ Fresh (H2.set o (.blk (c1.set (tn * 4 + 2) (.ms N1 0 ((froTo l n k tn).length + 1) 1)))) (N1 + 1) ∧ lo ≤ N1 + 1 := fun hc => by
        refine ⟨l[n].to.length - (k + 1), by omega, k + 1, _, by omega, rfl, rfl, rfl, ?_, hO1.set _ _, fun j hj hjo => ?_, ?_, by omega⟩
        · rw [froTo_up hn hkt htn2 hc]; exact hA2
        · simp only [AHeap.set]; rw [if_neg hjo, hlow j hj]; exact hold1 j hj hjo
        · intro j hj
          simp only [AHeap.set]
          rw [if_neg (by have := hA1.olo; omega)]
          exact hF2 j hj
      have hcl : tn * 4 + 2 + 1 ≤ c1.length := by have := hA1.len; omega
      by_cases hz : (froTo l n k tn).length = 0
      · have hc : ¬ (froTo l n k tn).getLast? = some (n : Int) := by rw [List.eq_nil_of_length_eq_zero hz]; simp
        have hz' : froTo l n k tn = [] := List.eq_nil_of_length_eq_zero hz
        obtain ⟨m', hm1, k', c2, hk1, hm2, rfl, rfl, q1, q2, q3, q4, q5⟩ := hdone hc
        rw [hz'] at happ q1 q2 q3 q4
        simp [a_flow_fromb1, e0, e2, e15, e16, e17, hkt, hp, lp, hix, hld, hlen, hz', happ, hH2o, hcl, hw, e7, e8, -aload, -alen]
        exact ⟨m', hm1, k + 1, hk1, hm2, rfl, _, q1, q2, q3, q4, q5⟩
      · have hz' : ¬ froTo l n k tn = [] := fun h => hz (by rw [h]; rfl)
        have hlt : (froTo l n k tn).length - 1 < (froTo l n k tn).length := by omega
        obtain ⟨p2, hp2, pp2⟩ := hB.rd.at (intCells_sz _) (intCells_at hlt)
        have lp2 := pp2.one
        have hsub : IntKind.i64.wrap (((froTo l n k tn).length : Int) - 1) = (((froTo l n k tn).length - 1 : Nat) : Int) := by rw [wrap_i64 (by omega) (by omega)]; omega
        have hgl : (froTo l n k tn).getLast? = some (froTo l n k tn)[(froTo l n k tn).length - 1] := by rw [List.getLast?_eq_getElem?, List.getElem?_eq_getElem hlt]
        obtain ⟨w, hwv⟩ : ∃ w, (froTo l n k tn)[(froTo l n k tn).length - 1] = w := ⟨_, rfl⟩
        rw [hwv] at hgl lp2
        by_cases hc : w = (n : Int)
        · have hs := froTo_same hn hkt htn2 (by rw [hgl, hc])
          simp [a_flow_fromb1, e0, e2, e15, e16, e17, hkt, hp, lp, hix, hld, hlen, hz', hsub, hp2, lp2, hc, hw, e7, e8, -aload, -alen]
          exact ⟨l[n].to.length - (k + 1), by omega, k + 1, by omega, rfl, rfl, c1, by rw [hs]; exact hA1, hO1, hold1, hF1, hlo1⟩
        · obtain ⟨m', hm1, k', c2, hk1, hm2, rfl, rfl, q1, q2, q3, q4, q5⟩ := hdone (by rw [hgl]; simpa using hc)
          simp [a_flow_fromb1, e0, e2, e15, e16, e17, hkt, hp, lp, hix, hld, hlen, hz', hsub, hp2, lp2, hc, happ, hH2o, hcl, hw, e7, e8, -aload, -alen]
          exact ⟨m', hm1, k + 1, hk1, hm2, rfl, _, q1, q2, q3, q4, q5⟩

theorem a_from (hm : l.length ≤ 1000000000) (htl : ∀ b ∈ l, b.to.length ≤ 140737488355328) (htos : ∀ b ∈ l, ∀ t ∈ b.to, 0 ≤ t ∧ t < l.length) (hT : TosAt H lo o l cs) (hA : FroAt H lo o l.length (fun _ => []) cs) (hF : Fresh H N) (hlo : lo ≤ N) :
    ACall Tryz.prog 70 [.ms o 0 l.length 4] H N (fun r H' N' => ∃ cs', FroAt H' lo o l.length (fromsL l) cs' ∧ OnlyFro cs cs' ∧ (∀ j, j < lo → j ≠ o → H' j = H j) ∧ Fresh H' N' ∧ lo ≤ N') := by
  refine acall mixed c_flow_from (by simp) ?_
  simp [a_flow_from]
  refine run_loop (fun m s => ∃ n cs', n ≤ l.length ∧ m = l.length - n ∧ s.A 0 = .ms o 0 l.length 4 ∧ s.A 7 = i64 l.length ∧ s.A 8 = i64 n ∧ FroAt s.H lo o l.length (froTo l n 0) cs' ∧ OnlyFro cs cs' ∧ (∀ j, j < lo → j ≠ o → s.H j = H j) ∧ Fresh s.H s.N ∧ lo ≤ s.N) l.length ?_ ?_
  · refine ⟨0, cs, by omega, by omega, by simp, by simp, by simp, ?_, OnlyFro.refl _, fun _ _ _ => rfl, hF, hlo⟩
    have : froTo l 0 0 = fun _ => [] := funext fun t => by
      unfold froTo
      rw [List.map_eq_nil_iff, List.filter_eq_nil_iff]
      intro x _
      simp
    rw [this]; exact hA
  · rintro m A1 H1 N1 ⟨n, c1, hnl, rfl, e0, e7, e8, hA1, hO1, hold1, hF1, hlo1⟩
    simp only at e0 e7 e8 hA1 hold1 hF1 hlo1
    by_cases hne : n = l.length
    · subst hne
      simp [a_flow_fromb2, e7, e8]
      refine ⟨c1, ?_, hO1, hold1, hF1, hlo1⟩
      have : froTo l l.length 0 = fromsL l := funext fun t => froTo_end l t
      rw [← this]; exact hA1
    · have hn : n < l.length := by omega
      obtain ⟨v, hv1, hv2⟩ := hT n hn
      have hix : aindex 4 (.ms o 0 l.length 4) (i64 (n : Nat)) = some (.mp o (n * 4)) := by simp [aindex, hn]
      have hv3 : c1[n * 4 + 3]? = some v := by rw [hO1 _ (by omega)]; exact hv1
      have hld : aload H1 false 1 (.mp o (n * 4 + 3)) = some v := by simp [aload, apart, hA1.at_, hv3]
      have hlen := (hv2 H1 hold1).len
      rw [intCells_len] at hlen
      have hw : IntKind.i64.wrap ((n : Int) + 1) = ((n + 1 : Nat) : Int) := by rw [wrap_i64 (by omega) (by omega)]; rfl
      unfold a_flow_fromb2
      obtain ⟨_, er⟩ : ∃ c, a_flow_fromb1 = c := ⟨_, rfl⟩
      rw [er]
      simp [e0, e7, e8, hn, hix, hld, hlen, -aload, -alen]
      rw [← er]
      refine from_b1 (n := n) hm htl htos hn hT hA1 hO1 hold1 hF1 hlo1 ?_ ?_ ?_ ?_ ?_ fun A2 H2 N2 c2 h2 hA2 hO2 hold2 hF2 hlo2 => ?_
      · simp [e0]
      · simp
      · simpa using hv1
      · simp
      · simp
      · have g0 := h2 0 (by simp)
        have g7 := h2 7 (by simp)
        have g8 := h2 8 (by simp)
        simp [e0, e7, e8] at g0 g7 g8
        simp [g0, g7, g8, hw]
        exact ⟨l.length - (n + 1), by omega, n + 1, by omega, rfl, rfl, c2, hA2, hO2, hold2, hF2, hlo2⟩
end
end Go.Proofs.YtcoepjbipbihfaaGreatDoor

/- flow: whether From and To fit, by the program. -/
namespace Go.Proofs.YtcoepjbipbihfaaGreatDoor
set_option linter.unusedSimpArgs false
set_option linter.unusedVariables false
open Go Go.Fw
theorem FroAt.later {H H' : AHeap} {lo o m N : Nat} {L : Nat → List Int} {cs : List AV} (h : FroAt H lo o m L cs) (hF : Fresh H N) (hk : ∀ j, j < N → H' j = H j) : FroAt H' lo o m L cs where
  at_ := by rw [hk o (hF.lt h.at_)]; exact h.at_
  len := h.len
  olo := h.olo
  row := fun n hn => by
    obtain ⟨a, h1, h2⟩ := h.row n hn
    exact ⟨a, h1, built_later h2 hF hk⟩
  apart := h.apart
def nilA : AV := .sl .nil 0 []
/-- What the blocks that are wanted are, when the first n are laid. -/
structure Want (l : List BlkV) (n : Nat) (cs : List AV) : Prop where
  len : cs.length = l.length * 4
  fro : ∀ i, i < l.length → cs[i * 4 + 2]? = some nilA
  to : ∀ i (hi : i < l.length), i < n → cs[i * 4 + 3]? = some (.sl l[i].tk 1 (intCells l[i].to))
theorem Want.start (l : List BlkV) : Want l 0 (List.replicate l.length [nilA, nilA, nilA, nilA]).flatten where
  len := by simp
  fro := fun i hi => by
    have h : ∀ x ∈ List.replicate l.length [nilA, nilA, nilA, nilA], x.length = 4 := fun x hx => by rw [List.eq_of_mem_replicate hx]; rfl
    have h2 := flatten_at h (i := i) (x := [nilA, nilA, nilA, nilA]) (by simp [hi])
    have := congrArg (fun z => z[2]?) h2
    simpa [List.getElem?_take, List.getElem?_drop] using this
  to := fun i _ h => by omega
theorem Want.more {l : List BlkV} {n : Nat} {cs : List AV} (h : Want l n cs) (hn : n < l.length) : Want l (n + 1) (cs.set (n * 4 + 3) (.sl l[n].tk 1 (intCells l[n].to))) where
  len := by simp [h.len]
  fro := fun i hi => by rw [List.getElem?_set_ne (by omega)]; exact h.fro i hi
  to := fun i hi h2 => by
    by_cases hin : i = n
    · subst hin
      rw [List.getElem?_set_self (by have := h.len; omega)]
    · rw [List.getElem?_set_ne (by omega)]; exact h.to i hi (by omega)

section
variable {l : List BlkV} {k : SK} {n : Nat} {H : AHeap} {N : Nat} {A : Nat → AV} {fs : List Fr} {Q : Post}

/-- All numbers of To are of blocks. -/
theorem froms_b2 {kt : SK} {to : List Int} (htl : to.length ≤ 140737488355328) (h0 : A 0 = .sl k 4 (blkCells l)) (h21 : A 21 = .sl kt 1 (intCells to)) (h22 : A 22 = i64 to.length) (h23 : A 23 = i64 0)
    (hk : argsB l.length to = true → ∀ A', (∀ t ∈ [0, 3, 4, 5, 13, 14, 15], A' t = A t) → onward Tryz.prog fs Q (.exit 2) ⟨A', H, N⟩)
    (hr : argsB l.length to = false → ∀ A', A' 2 = bl false → onward Tryz.prog fs Q .ret ⟨A', H, N⟩) : run Tryz.prog (.loop a_flow_fromsb2) fs Q ⟨A, H, N⟩ := by
  refine run_loop (fun m s => ∃ j, j ≤ to.length ∧ m = to.length - j ∧ (∀ t ∈ [0, 3, 4, 5, 13, 14, 15], s.A t = A t) ∧ s.A 21 = A 21 ∧ s.A 22 = A 22 ∧ s.A 23 = i64 j ∧ s.H = H ∧ s.N = N ∧ ∀ i (h : i < to.length), i < j → within to[i] l.length = true) to.length ?_ ?_
  · exact ⟨0, by omega, by omega, fun _ _ => rfl, rfl, rfl, h23, rfl, rfl, fun i _ hi => by omega⟩
  · rintro m A1 H1 N1 ⟨j, hj, rfl, hA, e21, e22, e23, eH, eN, hok⟩
    simp only at hA e21 e22 e23 eH eN
    subst eH; subst eN
    have a0 := hA 0 (by simp)
    have a3 := hA 3 (by simp)
    have a4 := hA 4 (by simp)
    have a5 := hA 5 (by simp)
    have a13 := hA 13 (by simp)
    have a14 := hA 14 (by simp)
    have a15 := hA 15 (by simp)
    by_cases hje : j = to.length
    · subst hje
      have hall : argsB l.length to = true := zall_iff.2 fun i hi => hok i hi hi
      simp [a_flow_fromsb2, e22, e23, h22]
      refine hk hall _ ?_
      simp [a0, a3, a4, a5, a13, a14, a15]
    · have hlt : j < to.length := by omega
      obtain ⟨v, hv⟩ : ∃ v, to[j] = v := ⟨_, rfl⟩
      have hix : aindex 1 (.sl kt 1 (intCells to)) (i64 (j : Nat)) = some (.ip [i64 v] 0) := aindex_sl (by omega) (by simp [intCells, hlt, hv])
      have hw : IntKind.i64.wrap ((j : Int) + 1) = ((j + 1 : Nat) : Int) := by rw [wrap_i64 (by omega) (by omega)]; rfl
      by_cases hv0 : v < 0
      · have hf : argsB l.length to = false := zall_bad hlt (by rw [hv]; simp [within]; omega)
        simp [a_flow_fromsb2, a0, h0, e21, e22, h21, h22, e23, hlt, hix, hv0]
        exact hr hf _ (by simp)
      · by_cases hv1 : (l.length : Int) ≤ v
        · have hf : argsB l.length to = false := zall_bad hlt (by rw [hv]; simp [within]; omega)
          simp [a_flow_fromsb2, a0, h0, e21, e22, h21, h22, e23, hlt, hix, hv0, hv1]
          exact hr hf _ (by simp)
        · simp [a_flow_fromsb2, a0, h0, a3, a4, a5, a13, a14, a15, e21, e22, h21, h22, e23, hlt, hix, hv0, hv1, hw]
          refine ⟨to.length - (j + 1), by omega, j + 1, by omega, rfl, rfl, fun i hi hij => ?_⟩
          by_cases hij2 : i = j
          · subst hij2
            rw [hv]; simp [within]; omega
          · exact hok i hi (by omega)
end

theorem p_froms {l : List BlkV} {k : SK} (hm : l.length ≤ 1000000000) (hok : ∀ b ∈ l, b.Ok) (hne : l ≠ []) : PCall Tryz.prog 26 [.sl k 4 (blkCells l)] (bl (frosB l)) := by
  refine PCall.of fun N => acallF mixed c_flow_froms (by simp) fun hF => ?_
  obtain ⟨B, hB⟩ : ∃ B, frosB l = B := ⟨_, rfl⟩
  rw [hB]
  unfold frosB at hB
  have bad1 : tosB l = false → B = false := fun h => by rw [← hB, h]; rfl
  have bad2 : (zall l fun b n => decide (b.fro = fromsL l n)) = false → B = false := fun h => by rw [← hB, h]; simp
  have hmk : amake 4 96 [AV.sl .nil 0 [], .sl .nil 0 [], .sl .nil 0 [], .sl .nil 0 []] (i64 l.length) (i64 l.length) = some (l.length, l.length) := by
    simp [amake]; omega
  unfold a_flow_froms
  obtain ⟨_, e2⟩ : ∃ c, a_flow_fromsb2 = c := ⟨_, rfl⟩
  simp [hmk]
  refine run_loop (fun m s => ∃ n cs, n ≤ l.length ∧ m = l.length - n ∧ s.A 0 = .sl k 4 (blkCells l) ∧ s.A 3 = .ms N 0 l.length 4 ∧ s.A 13 = .sl k 4 (blkCells l) ∧ s.A 14 = i64 l.length ∧ s.A 15 = i64 n ∧ s.H N = some (.blk cs) ∧ Want l n cs ∧ Fresh s.H s.N ∧ ∀ i (hi : i < l.length), i < n → argsB l.length l[i].to = true) l.length ?_ ?_
  · refine ⟨0, _, by omega, by omega, by simp, by simp, by simp, by simp, by simp, by simp; rfl, Want.start l, ?_, fun i _ h => by omega⟩
    exact hF.set _
  · rintro m A1 H1 N1 ⟨n, cs, hnl, rfl, e0, e3, e13, e14, e15, hcs, hW, hF1, htos⟩
    simp only at e0 e3 e13 e14 e15 hcs hF1
    have hN1 : N < N1 := hF1.lt hcs
    by_cases hnn : n = l.length
    · subst hnn
      have htosB : tosB l = true := zall_iff.2 fun i hi => htos i hi hi
      have hto2 : ∀ b ∈ l, ∀ t ∈ b.to, 0 ≤ t ∧ t < l.length := fun b hb t ht => by
        obtain ⟨i, hi, rfl⟩ := List.getElem_of_mem hb
        obtain ⟨j, hj, rfl⟩ := List.getElem_of_mem ht
        have := zall_iff.1 (htos i hi hi) j hj
        simpa [within] using this
      simp [a_flow_fromsb3, e0, e3, e14, e15]
      have hA1 : FroAt H1 N1 N l.length (fun _ => []) cs := ⟨hcs, hW.len, hN1, fun i hi => ⟨_, hW.fro i hi, Built.nil⟩, fun i j id k k' hi hj h1 h2 => by rw [hW.fro i hi] at h1; cases h1⟩
      have hT : TosAt H1 N1 N l cs := fun i hi => ⟨_, hW.to i hi hi, fun H' _ => .sl _⟩
      refine (a_from hm (fun b hb => (hok b hb).tl) hto2 hT hA1 hF1 (Nat.le_refl _)).mono ?_
      rintro r H2 N2 ⟨c2, hA2, hO2, hold2, hF2, hlo2⟩
      simp [e0]
      refine run_loop (fun m s => ∃ n, n ≤ l.length ∧ m = l.length - n ∧ s.A 0 = .sl k 4 (blkCells l) ∧ s.A 3 = .ms N 0 l.length 4 ∧ s.A 45 = .sl k 4 (blkCells l) ∧ s.A 46 = i64 l.length ∧ s.A 47 = i64 n ∧ FroAt s.H N1 N l.length (fromsL l) c2 ∧ Fresh s.H s.N ∧ ∀ i (hi : i < l.length), i < n → l[i].fro = fromsL l i) l.length ?_ ?_
      · exact ⟨0, by omega, by omega, by simp [e0], by simp [e3], by simp, by simp, by simp, hA2, hF2, fun i _ h => by omega⟩
      · rintro m A3 H3 N3 ⟨n, hnl, rfl, f0, f3, f45, f46, f47, hA3, hF3, hfro⟩
        simp only at f0 f3 f45 f46 f47 hA3 hF3
        by_cases hnn : n = l.length
        · subst hnn
          have hz : (zall l fun b n => decide (b.fro = fromsL l n)) = true := zall_iff.2 fun i hi => decide_eq_true (hfro i hi hi)
          rw [htosB, hz] at hB
          obtain ⟨b, r, hl⟩ : ∃ b r, l = b :: r := by
            cases l with
            | nil => exact absurd rfl hne
            | cons b r => exact ⟨b, r, rfl⟩
          have hix : aindex 4 (.sl k 4 (blkCells l)) (i64 0) = some (.ip b.cells 0) := aindex_sl (n := 0) (by omega) (by rw [hl]; rfl)
          have hBv : B = decide (b.fro = []) := by
            rw [← hB, hl]
            show (true && (true && b.fro.isEmpty)) = _
            cases b.fro <;> rfl
          simp [a_flow_fromsb1, f0, f46, f47, hix, intCells_len, hBv]
          exact .free rfl
        · have hn : n < l.length := by omega
          obtain ⟨b, hb⟩ : ∃ b, l[n] = b := ⟨_, rfl⟩
          have hbo := hok b (by rw [← hb]; exact List.getElem_mem hn)
          have hgl := hbo.gl
          have hix : aindex 4 (.sl k 4 (blkCells l)) (i64 (n : Nat)) = some (.ip b.cells 0) := aindex_sl (by omega) (by simp [blkCells, hn, hb])
          have hix2 : aindex 4 (.ms N 0 l.length 4) (i64 (n : Nat)) = some (.mp N (n * 4)) := by simp [aindex, hn]
          have hsx : splice 0 b.cells [AV.sl .nil 0 [], AV.sl .nil 0 [], AV.sl .nil 0 [], AV.sl .nil 0 []] = b.cells := splice_full (by simp)
          have hw : IntKind.i64.wrap ((n : Int) + 1) = ((n + 1 : Nat) : Int) := by rw [wrap_i64 (by omega) (by omega)]; rfl
          obtain ⟨a, ha, hBa⟩ := hA3.row n hn
          have hNN : N < N3 := hF3.lt hA3.at_
          have hkeep : ∀ (x : AObj) j, j < N3 → (H3.set N3 x) j = H3 j := fun x j hj => by simp only [AHeap.set]; rw [if_neg (by omega)]
          have hA4 : FroAt (H3.set N3 (.blk b.cells)) N1 N l.length (fromsL l) c2 := hA3.later hF3 (hkeep _)
          obtain ⟨a', ha', hBa'⟩ := hA4.row n hn
          rw [ha] at ha'
          cases ha'
          simp [a_flow_fromsb1, f0, f3, f45, f46, f47, hn, hix, hix2, hsx, hA3.at_, show ¬ N = N3 by omega, ha]
          refine (p_Equal_int (la := b.fro) (lb := fromsL l n) (.sl _) hBa'.rd (by have hmx : maxLen = 9223372036854775807 := rfl; omega) _).mono ?_
          rintro r H5 N5 ⟨rfl, rfl, rfl⟩
          by_cases hfe : b.fro = fromsL l n
          · simp [hfe, f0, f3, f45, f46, f47, hw]
            refine ⟨l.length - (n + 1), by omega, n + 1, by omega, rfl, rfl, hA4, hF3.set _, fun i hi hin => ?_⟩
            by_cases hij : i = n
            · subst hij; rw [hb]; exact hfe
            · exact hfro i hi (by omega)
          · have : B = false := bad2 (zall_bad hn (by rw [hb]; exact decide_eq_false hfe))
            simp [hfe, this]
            exact .free rfl
    · have hn : n < l.length := by omega
      obtain ⟨b, hb⟩ : ∃ b, l[n] = b := ⟨_, rfl⟩
      have hbo := hok b (by rw [← hb]; exact List.getElem_mem hn)
      have hix : aindex 4 (.sl k 4 (blkCells l)) (i64 (n : Nat)) = some (.ip b.cells 0) := aindex_sl (by omega) (by simp [blkCells, hn, hb])
      have hsx : splice 0 b.cells [AV.sl .nil 0 [], AV.sl .nil 0 [], AV.sl .nil 0 [], AV.sl .nil 0 []] = b.cells := splice_full (by simp)
      have hw : IntKind.i64.wrap ((n : Int) + 1) = ((n + 1 : Nat) : Int) := by rw [wrap_i64 (by omega) (by omega)]; rfl
      have hnone := hF1 N1 (Nat.le_refl _)
      unfold a_flow_fromsb3
      rw [e2]
      simp [e0, e3, e13, e14, e15, hn, hix, hsx, intCells_len]
      rw [← e2]
      refine froms_b2 (k := k) (l := l) (kt := b.tk) (to := b.to) hbo.tl (by simp [e0]) (by simp) (by simp) (by simp) (fun hto A2 h2 => ?_) (fun hto A2 h2 => ?_)
      · have g0 := h2 0 (by simp)
        have g3 := h2 3 (by simp)
        have g4 := h2 4 (by simp)
        have g5 := h2 5 (by simp)
        have g13 := h2 13 (by simp)
        have g14 := h2 14 (by simp)
        have g15 := h2 15 (by simp)
        simp [e0, e3, e13, e14, e15] at g0 g3 g4 g5 g13 g14 g15
        have hix2 : aindex 4 (.ms N 0 l.length 4) (i64 (n : Nat)) = some (.mp N (n * 4)) := by simp [aindex, hn]
        have hcl : n * 4 + 3 + 1 ≤ cs.length := by have := hW.len; omega
        simp [g0, g3, g4, g5, g13, g14, g15, hix2, hcs, show ¬ N = N1 by omega, hcl, hw]
        refine ⟨l.length - (n + 1), by omega, n + 1, by omega, rfl, rfl, ?_, ?_, fun i hi hin => ?_⟩
        · rw [← hb]; exact hW.more hn
        · intro j hj
          simp only [AHeap.set]
          rw [if_neg (by omega), if_neg (by omega)]
          exact hF1 j (by omega)
        · by_cases hij : i = n
          · subst hij; rw [hb]; exact hto
          · exact htos i hi (by omega)
      · have : B = false := bad1 (zall_bad hn (by rw [hb]; exact hto))
        simp [h2, this]
        exact .free rfl
end Go.Proofs.YtcoepjbipbihfaaGreatDoor
