/- touch: the sums of sets of Funs; what is reached by calls. -/
import Derived.Test.YtanpcmkhhpaeiaaGreatDoorTX
import Derived.Test.YtanpcmkhhpaeiaaGreatDoorNL
namespace Go.Proofs.YtanpcmkhhpaeiaaGreatDoor
set_option linter.unusedSimpArgs false
set_option linter.unusedVariables false
open Go Go.Fw
def SumV.get (s : SumV) : Nat → List Int := fun k => match k with | 0 => s.r | 1 => s.w | 2 => s.t | 3 => s.g | _ => s.c
theorem SumV.ext5 {s t : SumV} (h : ∀ f, f < 5 → s.get f = t.get f) : s = t := by
  have h0 := h 0 (by omega)
  have h1 := h 1 (by omega)
  have h2 := h 2 (by omega)
  have h3 := h 3 (by omega)
  have h4 := h 4 (by omega)
  cases s; cases t
  simp only [SumV.get] at h0 h1 h2 h3 h4
  subst h0 h1 h2 h3 h4
  rfl
theorem bothS_get (s t : SumV) (f : Nat) : (bothS s t).get f = joinL (s.get f) (t.get f) := by
  unfold SumV.get bothS
  split <;> rfl
theorem noS_get (f : Nat) : noS.get f = [] := by
  unfold SumV.get noS
  split <;> rfl
theorem le_of_get {s : SumV} {n : Nat} (h : ∀ f, f < 5 → (s.get f).length ≤ n) : s.le n := ⟨h 0 (by omega), h 1 (by omega), h 2 (by omega), h 3 (by omega), h 4 (by omega)⟩
theorem get_of_le {s : SumV} {n : Nat} (h : s.le n) : ∀ f, (s.get f).length ≤ n := fun f => by
  obtain ⟨h1, h2, h3, h4, h5⟩ := h
  unfold SumV.get
  split <;> assumption
theorem ownV_lt (code : List Ins) (f : Nat) : ((ownV code).get f).Pairwise (· < ·) := by
  unfold ownV
  rw [bothS_get]
  exact joinL_lt _ _
theorem ownV_le (code : List Ins) : (ownV code).le code.length := by
  refine le_of_get fun f hf => ?_
  unfold ownV
  rw [bothS_get, noS_get]
  have := joinL_len ((rawV code).get f) []
  have h2 : ((rawV code).get f).length ≤ code.length := by
    unfold SumV.get rawV
    split <;> exact numsOf_len _ _
  simp at this
  omega

/-- A rising row within another one is not longer. -/
theorem len_of_sub : ∀ {l m : List Int}, l.Pairwise (· < ·) → (∀ v, v ∈ l → v ∈ m) → l.length ≤ m.length
  | [], m, _, _ => by simp
  | a :: r, m, h, hs => by
    rw [List.pairwise_cons] at h
    have ha := hs a (by simp)
    have hl := List.length_erase_of_mem ha
    have ih := len_of_sub (l := r) (m := m.erase a) h.2 fun v hv => by
      have hne : v ≠ a := by have := h.1 v hv; omega
      exact (List.mem_erase_of_ne hne).2 (hs v (by simp [hv]))
    have hpos : 0 < m.length := List.length_pos_of_mem ha
    simp only [List.length_cons]
    omega

/-- What the Funs of a set do, in all. -/
def IsSum (own : Nat → SumV) (S : Nat → Prop) (s : SumV) : Prop := ∀ f, f < 5 → (s.get f).Pairwise (· < ·) ∧ ∀ v, v ∈ s.get f ↔ ∃ k, S k ∧ v ∈ (own k).get f
theorem IsSum.uniq {own : Nat → SumV} {S T : Nat → Prop} {s t : SumV} (h : IsSum own S s) (h2 : IsSum own T t) (he : ∀ k, S k ↔ T k) : s = t :=
  SumV.ext5 fun f hf => eq_of_lt _ _ (h f hf).1 (h2 f hf).1 fun v => by
    rw [(h f hf).2, (h2 f hf).2]
    exact ⟨fun ⟨k, h1, h2⟩ => ⟨k, (he k).1 h1, h2⟩, fun ⟨k, h1, h2⟩ => ⟨k, (he k).2 h1, h2⟩⟩
theorem IsSum.congr {own : Nat → SumV} {S T : Nat → Prop} {s : SumV} (h : IsSum own S s) (he : ∀ k, S k ↔ T k) : IsSum own T s := fun f hf => ⟨(h f hf).1, fun v => by
  rw [(h f hf).2]
  exact ⟨fun ⟨k, h1, h2⟩ => ⟨k, (he k).1 h1, h2⟩, fun ⟨k, h1, h2⟩ => ⟨k, (he k).2 h1, h2⟩⟩⟩
theorem IsSum.both {own : Nat → SumV} {S T : Nat → Prop} {s t : SumV} (h : IsSum own S s) (h2 : IsSum own T t) : IsSum own (fun k => S k ∨ T k) (bothS s t) := fun f hf => by
  rw [bothS_get]
  refine ⟨joinL_lt _ _, fun v => ?_⟩
  rw [joinL_mem, (h f hf).2, (h2 f hf).2]
  constructor
  · rintro (⟨k, h1, h2⟩ | ⟨k, h1, h2⟩)
    · exact ⟨k, .inl h1, h2⟩
    · exact ⟨k, .inr h1, h2⟩
  · rintro ⟨k, h1 | h1, h2⟩
    · exact .inl ⟨k, h1, h2⟩
    · exact .inr ⟨k, h1, h2⟩
theorem IsSum.none (own : Nat → SumV) : IsSum own (fun _ => False) noS := fun f hf => by
  rw [noS_get]
  exact ⟨List.Pairwise.nil, fun v => by simp⟩
theorem IsSum.one {own : Nat → SumV} (k : Nat) (h : ∀ f, f < 5 → ((own k).get f).Pairwise (· < ·)) : IsSum own (fun i => i = k) (own k) := fun f hf =>
  ⟨h f hf, fun v => ⟨fun hv => ⟨k, rfl, hv⟩, fun ⟨i, hi, hv⟩ => by rw [hi] at hv; exact hv⟩⟩
theorem IsSum.le {own : Nat → SumV} {S : Nat → Prop} {s : SumV} {n M : Nat} (h : IsSum own S s) (hS : ∀ k, S k → k < n) (hM : ∀ k, k < n → (own k).le M) : s.le (n * M) := by
  refine le_of_get fun f hf => ?_
  have h1 := len_of_sub (l := s.get f) (m := (List.range n).flatMap fun k => (own k).get f) (h f hf).1 fun v hv => by
    obtain ⟨k, hk, hvk⟩ := ((h f hf).2 v).1 hv
    exact List.mem_flatMap.2 ⟨k, List.mem_range.2 (hS k hk), hvk⟩
  refine Nat.le_trans h1 ?_
  have hfl : ∀ m, m ≤ n → ((List.range m).flatMap fun k => (own k).get f).length ≤ m * M := by
    intro m
    induction m with
    | zero => intro _; simp
    | succ m ih =>
      intro hm
      rw [List.range_succ, List.flatMap_append, List.length_append]
      have := ih (by omega)
      have h2 := get_of_le (hM m (by omega)) f
      simp only [List.flatMap_cons, List.flatMap_nil, List.append_nil]
      rw [Nat.add_mul]
      omega
  exact hfl n (Nat.le_refl _)

/-- What is reached by calls. -/
inductive Rchd (own : Nat → SumV) (i : Nat) : Nat → Prop
  | refl : Rchd own i i
  | step {k c : Nat} : Rchd own i k → (c : Int) ∈ (own k).c → Rchd own i c
theorem Rchd.trans {own : Nat → SumV} {i j k : Nat} (h : Rchd own i j) (h2 : Rchd own j k) : Rchd own i k := by
  induction h2 with
  | refl => exact h
  | step _ hc ih => exact .step ih hc
theorem Rchd.closed {own : Nat → SumV} {i : Nat} {L : Nat → Prop} (hi : L i) (hc : ∀ k, L k → ∀ c : Nat, (c : Int) ∈ (own k).c → L c) : ∀ {k}, Rchd own i k → L k := by
  intro k h
  induction h with
  | refl => exact hi
  | step _ h2 ih => exact hc _ ih _ h2

/-- How many are not met yet. -/
def unmet (n : Nat) (L : List Nat) : Nat := ((List.range n).filter fun k => !L.contains k).length
theorem filter_lt {p q : Nat → Bool} : ∀ {l : List Nat} {x : Nat}, x ∈ l → p x = true → q x = false → (∀ y, q y = true → p y = true) → (l.filter q).length < (l.filter p).length
  | [], x, h, _, _, _ => by simp at h
  | y :: l, x, h, hp, hq, hqp => by
    have hle : ∀ l : List Nat, (l.filter q).length ≤ (l.filter p).length := by
      intro l
      induction l with
      | nil => simp
      | cons z l ih =>
        simp only [List.filter_cons]
        cases hz : q z with
        | true => rw [hqp z hz]; simpa using ih
        | false =>
          simp only [Bool.false_eq_true, if_false]
          split
          · simp; omega
          · exact ih
    simp only [List.filter_cons]
    rcases List.mem_cons.1 h with rfl | h1
    · rw [hp, hq]
      have := hle l
      simp
      omega
    · have ih := filter_lt h1 hp hq hqp
      cases hz : q y with
      | true => rw [hqp y hz]; simpa using ih
      | false =>
        simp only [Bool.false_eq_true, if_false]
        split
        · simp; omega
        · exact ih
theorem unmet_next {n : Nat} {L : List Nat} {k : Nat} (hk : k < n) (h : k ∉ L) : unmet n (L ++ [k]) < unmet n L := by
  unfold unmet
  refine filter_lt (x := k) (List.mem_range.2 hk) (by simpa using h) (by simp) fun y hy => ?_
  simp at hy ⊢
  exact hy.1
theorem unmet_mono {n : Nat} {L L' : List Nat} (h : ∀ k, k ∈ L → k ∈ L') : unmet n L' ≤ unmet n L := by
  unfold unmet
  have hle : ∀ l : List Nat, (l.filter fun k => !L'.contains k).length ≤ (l.filter fun k => !L.contains k).length := by
    intro l
    induction l with
    | nil => simp
    | cons z l ih =>
      simp only [List.filter_cons]
      by_cases hz : z ∈ L'
      · have : (!L'.contains z) = false := by simpa using hz
        rw [this]
        simp only [Bool.false_eq_true, if_false]
        split
        · rw [List.length_cons]; omega
        · exact ih
      · have h1 : (!L'.contains z) = true := by simpa using hz
        have h2 : (!L.contains z) = true := by simpa using fun hh => hz (h z hh)
        rw [h1, h2]
        simpa using ih
  exact hle _
end Go.Proofs.YtanpcmkhhpaeiaaGreatDoor

/- touch: all that a Fun reaches by calls is met once. -/
namespace Go.Proofs.YtanpcmkhhpaeiaaGreatDoor
set_option linter.unusedSimpArgs false
set_option linter.unusedVariables false
open Go Go.Fw
def ent (k : Nat) : Value × AV := (.int .i64 k, i64 1)
theorem afind_ent (k : Nat) : ∀ (L : List Nat) (i : Nat), (k ∉ L → afind (.int .i64 k) (L.map ent) i = some none) ∧ (k ∈ L → ∃ j, afind (.int .i64 k) (L.map ent) i = some (some (i + j)) ∧ L[j]? = some k)
  | [], i => ⟨fun _ => rfl, fun h => by simp at h⟩
  | x :: L, i => by
    have ih := afind_ent k L (i + 1)
    have hq : keq (.int .i64 (k : Int)) (.int .i64 (x : Int)) = some ((k : Int) == (x : Int)) := by simp [keq]
    by_cases hx : k = x
    · subst hx
      refine ⟨fun h => absurd (by simp) h, fun _ => ⟨0, ?_, rfl⟩⟩
      simp only [List.map_cons, ent, afind, hq]
      simp
    · have hb : ((k : Int) == (x : Int)) = false := by simp; omega
      have hstep : afind (.int .i64 k) ((x :: L).map ent) i = afind (.int .i64 k) (L.map ent) (i + 1) := by
        simp only [List.map_cons, ent, afind, hq, hb]
      rw [hstep]
      refine ⟨fun h => ih.1 fun h1 => h (by simp [h1]), fun h => ?_⟩
      rcases List.mem_cons.1 h with h1 | h1
      · exact absurd h1 hx
      · obtain ⟨j, h2, h3⟩ := ih.2 h1
        exact ⟨j + 1, by rw [h2, Nat.add_assoc, Nat.add_comm 1 j], by simpa using h3⟩

/-- What stands ahead of a visit: what each Fun does by itself, laid below N0. -/
structure Ctx (own : Nat → SumV) (n M : Nat) (H0 : AHeap) (N0 bo : Nat) (vo : AV) (es : List (List AV)) : Prop where
  F0 : Fresh H0 N0
  bo : H0 bo = some (.blk [vo])
  rd : RdSl H0 5 es vo
  len : es.length = n
  at_ : ∀ (k : Nat) (x : List AV), es[k]? = some x → ∃ a b c d e, x = [a, b, c, d, e] ∧ SumAt H0 (own k) a b c d e
  lt : ∀ k, k < n → ∀ f, f < 5 → ((own k).get f).Pairwise (· < ·)
  le : ∀ k, k < n → (own k).le M
  nM : n * M ≤ 400000000
  M1 : M ≤ 400000000
  calls : ∀ k, k < n → ∀ c, c ∈ (own k).c → ∃ c' : Nat, c = c' ∧ c' < n
theorem Ctx.sz {own : Nat → SumV} {n M : Nat} {H0 : AHeap} {N0 bo : Nat} {vo : AV} {es : List (List AV)} (h : Ctx own n M H0 N0 bo vo es) : ∀ x ∈ es, x.length = 5 := fun x hx => by
  obtain ⟨k, hk, rfl⟩ := List.getElem_of_mem hx
  obtain ⟨a, b, c, d, e, h1, _⟩ := h.at_ k _ (List.getElem?_eq_getElem hk)
  rw [h1]
  rfl
def visV (N0 bo : Nat) : AV := .fn (.func 31) [] [.mp (N0 + 2) 0, .mp N0 0, .mp bo 0, .mp (N0 + 3) 0]
structure VI (own : Nat → SumV) (n : Nat) (H0 : AHeap) (N0 bo : Nat) (H : AHeap) (N : Nat) (L : List Nat) : Prop where
  old : ∀ j, j < N0 → H j = H0 j
  ba : ∃ v1 v2 v3 v4 v5 s, H N0 = some (.blk [v1, v2, v3, v4, v5]) ∧ FshAt H (N0 + 4) s v1 v2 v3 v4 v5 ∧ IsSum own (· ∈ L) s
  mm : H (N0 + 1) = some (.map (L.map ent))
  bm : H (N0 + 2) = some (.blk [.mm (N0 + 1)])
  bv : H (N0 + 3) = some (.blk [visV N0 bo])
  F : Fresh H N
  le : N0 + 4 ≤ N
  lt : ∀ k ∈ L, k < n
structure VPost (own : Nat → SumV) (L L' : List Nat) (k : Nat) : Prop where
  sub : ∀ m ∈ L, m ∈ L'
  has : k ∈ L'
  rch : ∀ m ∈ L', m ∈ L ∨ Rchd own k m
  clo : ∀ m ∈ L', m ∉ L → ∀ c : Nat, (c : Int) ∈ (own m).c → c ∈ L'
theorem FshAt.below {H : AHeap} {lo i : Nat} {o : AObj} {s : SumV} {a b c d e : AV} (h : FshAt H lo s a b c d e) (hi : i < lo) : FshAt (H.set i o) lo s a b c d e :=
  ⟨h.r.below hi, h.w.below hi, h.t.below hi, h.g.below hi, h.c.below hi⟩

theorem p_visit {own : Nat → SumV} {n M : Nat} {H0 : AHeap} {N0 bo : Nat} {vo : AV} {es : List (List AV)} (hC : Ctx own n M H0 N0 bo vo es) : ∀ (d : Nat) (H : AHeap) (N : Nat) (L : List Nat) (k : Nat), k < n → VI own n H0 N0 bo H N L → unmet n L = d →
    ACall Tryz.prog 31 [i64 (k : Nat), .mp (N0 + 2) 0, .mp N0 0, .mp bo 0, .mp (N0 + 3) 0] H N (fun r H' N' => r = .tup [] ∧ ∃ L', VI own n H0 N0 bo H' N' L' ∧ N ≤ N' ∧ VPost own L L' k) := by
  intro d
  induction d using Nat.strongRecOn with
  | ind d ih =>
    intro H N L k hk hV hd
    have hboN : bo < N0 := hC.F0.lt hC.bo
    obtain ⟨v1, v2, v3, v4, v5, s, hba, hfs, hsum⟩ := hV.ba
    have hbm := hV.bm
    have hbv := hV.bv
    have hmm := hV.mm
    have hN := hV.le
    have hF := hV.F
    obtain ⟨f1, f2⟩ := afind_ent k L 0
    refine acall mixed c_touch_Of_1 (by simp) ?_
    by_cases hkL : k ∈ L
    · obtain ⟨j, hj, hjk⟩ := f2 hkL
      rw [Nat.zero_add] at hj
      have hjm : (L.map ent)[j]? = some (ent k) := by simp [hjk]
      simp [a_touch_Of_1, hbm, alook, hmm, hj, hjk, ent]
      exact ⟨L, hV, fun m hm => hm, hkL, fun m hm => .inl hm, fun m hm h => absurd hm h⟩
    · have hfn := f1 hkL
      obtain ⟨lp, elp⟩ : ∃ c, a_touch_Of_1b1 = c := ⟨_, rfl⟩
      unfold a_touch_Of_1
      rw [elp]
      have w1 : IntKind.i64.wrap 1 = 1 := rfl
      have hbo : H bo = some (.blk [vo]) := (hV.old bo hboN).trans hC.bo
      obtain ⟨x, hx⟩ : ∃ x, es[k]? = some x := ⟨es[k]'(by rw [hC.len]; exact hk), List.getElem?_eq_getElem _⟩
      obtain ⟨a, b, c, d', e, rfl, hsk⟩ := hC.at_ k x hx
      simp [hbm, alook, hmm, hfn, w1]
      obtain ⟨Hm, hHm⟩ : ∃ Hm, H.set (N0 + 1) (.map (L.map ent ++ [(.int .i64 (k : Int), .lit (.int .i64 1))])) = Hm := ⟨_, rfl⟩
      rw [hHm]
      have oldm : ∀ j, j < N0 → Hm j = H0 j := fun j hj => by
        rw [← hHm]; simp only [AHeap.set]; rw [if_neg (by omega)]; exact hV.old j hj
      have hFm : Fresh Hm N := by
        intro i hi
        rw [← hHm]
        simp only [AHeap.set]
        rw [if_neg (by omega)]
        exact hF i hi
      have hfsm : FshAt Hm (N0 + 4) s v1 v2 v3 v4 v5 := by rw [← hHm]; exact hfs.below (by omega)
      have bam : Hm N0 = some (.blk [v1, v2, v3, v4, v5]) := by rw [← hHm]; simp only [AHeap.set]; rw [if_neg (by omega)]; exact hba
      have mmm : Hm (N0 + 1) = some (.map ((L ++ [k]).map ent)) := by rw [← hHm]; simp [AHeap.set, ent]
      have bmm : Hm (N0 + 2) = some (.blk [.mm (N0 + 1)]) := by rw [← hHm]; simp only [AHeap.set]; rw [if_neg (by omega)]; exact hbm
      have bvm : Hm (N0 + 3) = some (.blk [visV N0 bo]) := by rw [← hHm]; simp only [AHeap.set]; rw [if_neg (by omega)]; exact hbv
      have rdm := RdSl.keepF hC.rd hC.F0 oldm
      have skm := hsk.keep hC.F0 oldm
      obtain ⟨p, hp, pp⟩ := rdm.at hC.sz hx
      have lp5 : aload Hm true 5 p = some (.agg [a, b, c, d', e]) := pp.load
      have lbo : aload Hm false 1 (.mp bo 0) = some vo := by
        have : Hm bo = some (.blk [vo]) := (oldm bo hboN).trans hC.bo
        simp [aload, this]
      have hle := hsum.le (n := n) (M := M) (fun m hm => hV.lt m hm) hC.le
      have hleS : s.le 500000000 := by
        obtain ⟨q1, q2, q3, q4, q5⟩ := hle
        have := hC.nM
        exact ⟨by omega, by omega, by omega, by omega, by omega⟩
      have hleK : (own k).le 500000000 := by
        obtain ⟨q1, q2, q3, q4, q5⟩ := hC.le k hk
        have := hC.M1
        exact ⟨by omega, by omega, by omega, by omega, by omega⟩
      clear hHm
      simp [hba, lbo, hp, lp5, -aload]
      refine (p_Both hfsm.at skm hleS hleK N).monoF ?_
      rintro r2 H2 N2 ⟨hN2, hk2, w1', w2, w3, w4, w5, rfl, hf2⟩ hF2 _
      have ba2 := (hk2 N0 (by omega)).trans bam
      have c1 := hf2.r.lst.cells
      have c2 := hf2.w.lst.cells
      have c3 := hf2.t.lst.cells
      have c4 := hf2.g.lst.cells
      have c5 := hf2.c.lst.cells
      simp [ba2, splice, -aload]
      obtain ⟨H3, hH3⟩ : ∃ H3, H2.set N0 (.blk [w1', w2, w3, w4, w5]) = H3 := ⟨_, rfl⟩
      rw [hH3]
      have old3 : ∀ j, j < N0 → H3 j = H0 j := fun j hj => by
        rw [← hH3]; simp only [AHeap.set]; rw [if_neg (by omega), hk2 j (by omega)]; exact oldm j hj
      have hF3 : Fresh H3 N2 := by
        intro i hi
        rw [← hH3]
        simp only [AHeap.set]
        rw [if_neg (by omega)]
        exact hF2 i hi
      have hV3 : VI own n H0 N0 bo H3 N2 (L ++ [k]) := by
        refine ⟨old3, ⟨w1', w2, w3, w4, w5, bothS s (own k), by rw [← hH3]; simp [AHeap.set], ?_, (hsum.both (IsSum.one k (hC.lt k hk))).congr fun m => by simp⟩, ?_, ?_, ?_, hF3, by omega, fun m hm => ?_⟩
        · rw [← hH3]; exact (hf2.mono (by omega)).below (by omega)
        · rw [← hH3]; simp only [AHeap.set]; rw [if_neg (by omega), hk2 _ (by omega)]; exact mmm
        · rw [← hH3]; simp only [AHeap.set]; rw [if_neg (by omega), hk2 _ (by omega)]; exact bmm
        · rw [← hH3]; simp only [AHeap.set]; rw [if_neg (by omega), hk2 _ (by omega)]; exact bvm
        · rcases List.mem_append.1 hm with h | h
          · exact hV.lt m h
          · rw [List.mem_singleton.1 h]; exact hk
      have rd3 := RdSl.keepF hC.rd hC.F0 old3
      have sk3 := hsk.keep hC.F0 old3
      obtain ⟨p3, hp3, pp3⟩ := rd3.at hC.sz hx
      rw [hp] at hp3
      cases hp3
      obtain ⟨q, hq, lq⟩ := pp3.cell (k := 4) (c := e) rfl
      have lbo3 : aload H3 false 1 (.mp bo 0) = some vo := by
        have : H3 bo = some (.blk [vo]) := (old3 bo hboN).trans hC.bo
        simp [aload, this]
      have hel := sk3.c.len
      have hec := sk3.c.cells
      clear hH3
      simp [lbo3, hp, hq, lq, hel, -aload, -afield, -alen]
      have hclen : (own k).c.length ≤ 400000000 := by
        obtain ⟨q1, q2, q3, q4, q5⟩ := hC.le k hk
        have := hC.M1
        omega
      refine run_loop (fun m st => ∃ (j : Nat) (Lj : List Nat), j ≤ (own k).c.length ∧ m = (own k).c.length - j ∧ st.A 4 = .mp (N0 + 3) 0 ∧ st.A 26 = e ∧ st.A 27 = i64 (own k).c.length ∧ st.A 28 = i64 j ∧ VI own n H0 N0 bo st.H st.N Lj ∧ N2 ≤ st.N ∧
        (∀ m ∈ L ++ [k], m ∈ Lj) ∧ (∀ m ∈ Lj, m ∈ L ∨ Rchd own k m) ∧ (∀ (i c : Nat), i < j → (own k).c[i]? = some (c : Int) → c ∈ Lj) ∧ (∀ m ∈ Lj, m ∉ L → m ≠ k → ∀ c : Nat, (c : Int) ∈ (own m).c → c ∈ Lj)) (own k).c.length ?_ ?_
      · refine ⟨0, L ++ [k], by omega, by omega, by simp, by simp, by simp, by simp, hV3, Nat.le_refl _, fun m hm => hm, fun m hm => ?_, fun i c hi => absurd hi (by omega), fun m hm h1 h2 => ?_⟩
        · rcases List.mem_append.1 hm with h | h
          · exact .inl h
          · rw [List.mem_singleton.1 h]; exact .inr .refl
        · rcases List.mem_append.1 hm with h | h
          · exact absurd h h1
          · exact absurd (List.mem_singleton.1 h) h2
      · rintro m A4 H4 N4 ⟨j, Lj, hj, rfl, e4, e26, e27, e28, hV4, hN4, hs4, hr4, hc4, hcl4⟩
        simp only at e4 e26 e27 e28 hV4 hN4
        by_cases hjl : j < (own k).c.length
        · obtain ⟨c0, hc0⟩ : ∃ c0, (own k).c[j]? = some c0 := ⟨(own k).c[j], List.getElem?_eq_getElem hjl⟩
          obtain ⟨c', rfl, hc'n⟩ := hC.calls k hk c0 (List.mem_of_getElem? hc0)
          have hj2 : (j : Int) < (own k).c.length := by omega
          obtain ⟨pc, hpc, lpc⟩ := (hsk.c.keep hC.F0 hV4.old).get hc0
          have hbv4 := hV4.bv
          have hlv : aload H4 false 1 (.mp (N0 + 3) 0) = some (visV N0 bo) := by simp [aload, hbv4]
          subst elp
          simp [a_touch_Of_1b1, e4, e26, e27, e28, hj2, hpc, lpc, hlv, visV, -aload]
          have hlt4 : unmet n Lj < d := by
            have h1 := unmet_mono (n := n) hs4
            have h2 := unmet_next hk hkL
            omega
          refine (ih (unmet n Lj) hlt4 H4 N4 Lj c' hc'n hV4 rfl).mono ?_
          rintro r5 H5 N5 ⟨rfl, L5, hV5, hN5, hp5⟩
          simp [e4, e26, e27, e28]
          have hmem : ((c' : Nat) : Int) ∈ (own k).c := List.mem_of_getElem? hc0
          refine ⟨(own k).c.length - (j + 1), by omega, j + 1, by omega, rfl, by rw [wrap_i64 (by omega) (by omega)]; rfl, L5, hV5, by omega, fun m hm => hp5.sub m (hs4 m (by simpa using hm)), fun m hm => ?_, fun i c hi hic => ?_, fun m hm h1 h2 c hc => ?_⟩
          · rcases hp5.rch m hm with h | h
            · exact hr4 m h
            · exact .inr ((Rchd.step .refl hmem).trans h)
          · by_cases he : i = j
            · subst he
              rw [hc0] at hic
              have h2 := Option.some.inj hic
              have : c' = c := by omega
              rw [← this]
              exact hp5.has
            · exact hp5.sub c (hc4 i c (by omega) hic)
          · by_cases hmj : m ∈ Lj
            · exact hp5.sub c (hcl4 m hmj h1 h2 c hc)
            · exact hp5.clo m hm hmj c hc
        · have hj2 : ¬ (j : Int) < (own k).c.length := by omega
          have hje : j = (own k).c.length := by omega
          subst elp
          simp [a_touch_Of_1b1, e4, e26, e27, e28, hj2]
          refine ⟨Lj, hV4, by omega, fun m hm => hs4 m (by simp [hm]), hs4 k (by simp), hr4, fun m hm h1 c hc => ?_⟩
          by_cases hmk : m = k
          · subst hmk
            obtain ⟨i, hi, hic⟩ := List.getElem_of_mem hc
            exact hc4 i c (by omega) (by rw [List.getElem?_eq_getElem hi, hic])
          · exact hcl4 m hm h1 hmk c hc
end Go.Proofs.YtanpcmkhhpaeiaaGreatDoor

/- touch: rows of sums that grow. -/
namespace Go.Proofs.YtanpcmkhhpaeiaaGreatDoor
set_option linter.unusedSimpArgs false
set_option linter.unusedVariables false
open Go Go.Fw
/-- A row of sums, and where its cells lie. -/
def Arr (H : AHeap) (lo : Nat) (es : List (List AV)) (v : AV) (ar : Nat) : Prop :=
  (∀ x ∈ es, x.length = 5) ∧ ((es = [] ∧ v = .sl .nil 0 []) ∨ (es ≠ [] ∧ lo ≤ ar ∧ v = .ms ar 0 es.length 5 ∧ H ar = some (.blk es.flatten)))
theorem Arr.cells {H : AHeap} {lo : Nat} {es : List (List AV)} {v : AV} {ar : Nat} (h : Arr H lo es v ar) : v.cells = some [v] := by
  obtain ⟨_, ⟨_, rfl⟩ | ⟨_, _, rfl, _⟩⟩ := h <;> rfl
theorem Arr.rd {H : AHeap} {lo : Nat} {es : List (List AV)} {v : AV} {ar : Nat} (h : Arr H lo es v ar) : RdSl H 5 es v := by
  obtain ⟨hs, ⟨rfl, rfl⟩ | ⟨_, _, rfl, hH⟩⟩ := h
  · exact .nil _ _
  · exact .ms hH (flatten_len hs)
theorem Arr.built {H : AHeap} {lo : Nat} {es : List (List AV)} {v : AV} {ar : Nat} (h : Arr H lo es v ar) : Built H lo 5 (.sl .nil 0 []) es v := by
  obtain ⟨hs, ⟨rfl, rfl⟩ | ⟨h0, h1, rfl, hH⟩⟩ := h
  · exact .nil
  · exact ⟨hs, .inr ⟨h0, ar, h1, rfl, hH⟩⟩
theorem Arr.keep {H H' : AHeap} {lo N : Nat} {es : List (List AV)} {v : AV} {ar : Nat} (h : Arr H lo es v ar) (hF : Fresh H N) (hk : ∀ j, lo ≤ j → j < N → H' j = H j) : Arr H' lo es v ar := by
  obtain ⟨hs, h1 | ⟨h0, h1, h2, hH⟩⟩ := h
  · exact ⟨hs, .inl h1⟩
  · exact ⟨hs, .inr ⟨h0, h1, h2, (hk ar h1 (hF.lt hH)).trans hH⟩⟩
theorem Arr.push {H : AHeap} {lo N : Nat} {es : List (List AV)} {v : AV} {ar : Nat} (h : Arr H lo es v ar) (hF : Fresh H N) (hlo : lo ≤ N) {x : List AV} (hx : x.length = 5) (hl : es.length < 1000000) :
    ∃ H', aappend false 5 120 H N v (.sl .exact 5 [x]) = some (.ms N 0 (es.length + 1) 5, H', N + 1) ∧ Arr H' lo (es ++ [x]) (.ms N 0 (es.length + 1) 5) N ∧ Fresh H' (N + 1) ∧ (∀ j, j < lo → H' j = H j) ∧ (∀ j, j < N → (es ≠ [] → j ≠ ar) → H' j = H j) := by
  obtain ⟨hs, hv⟩ := h
  have hall : ∀ y ∈ es ++ [x], y.length = 5 := fun y hy => (List.mem_append.1 hy).elim (hs y) fun h => by rw [List.mem_singleton.1 h]; exact hx
  have hsrc : asrc H 5 (.sl .exact 5 [x]) = some (x, 1) := by
    simp only [asrc]
    rw [if_pos (.inl trivial)]
    simp
  rcases hv with ⟨rfl, rfl⟩ | ⟨h0, h1, rfl, hH⟩
  · refine ⟨H.set N (.blk x), ?_, ⟨hall, .inr ⟨by simp, hlo, rfl, by simp [AHeap.set]⟩⟩, hF.set _, fun j hj => ?_, fun j hj _ => ?_⟩
    · simp only [aappend, hsrc]
      rfl
    · simp only [AHeap.set]; rw [if_neg (by omega)]
    · simp only [AHeap.set]; rw [if_neg (by omega)]
  · have hlt := hF.lt hH
    have hfl := flatten_len hs
    refine ⟨(H.del ar).set N (.blk ((es ++ [x]).flatten)), ?_, ⟨hall, .inr ⟨by simp, hlo, by simp, by simp [AHeap.set]⟩⟩, ?_, fun j hj => ?_, fun j hj hne => ?_⟩
    · simp only [aappend, hsrc, hH]
      rw [if_pos ⟨trivial, by omega, by unfold lim; omega, by omega⟩, List.drop_zero, ← hfl, List.take_length]
      simp
    · intro j hj
      simp only [AHeap.set, AHeap.del]
      rw [if_neg (by omega)]
      split
      · rfl
      · exact hF j (by omega)
    · simp only [AHeap.set, AHeap.del]
      rw [if_neg (by omega), if_neg (by omega)]
    · simp only [AHeap.set, AHeap.del]
      rw [if_neg (by omega), if_neg (hne h0)]

/-- As Fsh, in blocks of which something is known. -/
def FshV (H : AHeap) (P : Nat → Prop) (l : List Int) (v : AV) : Prop :=
  (l = [] ∧ v = .sl .nil 0 []) ∨ (l ≠ [] ∧ ∃ (id : Nat) (ds : List AV), P id ∧ v = .ms id 0 l.length 1 ∧ H id = some (.blk ds) ∧ l.length ≤ ds.length ∧ ds.take l.length = l.map i64)
theorem Fsh.v {H : AHeap} {lo : Nat} {l : List Int} {v : AV} (h : Fsh H lo l v) {P : Nat → Prop} (hP : ∀ id o, lo ≤ id → H id = some o → P id) : FshV H P l v := by
  rcases h with h | ⟨h0, id, ds, h1, h2, h3, h4⟩
  · exact .inl h
  · exact .inr ⟨h0, id, ds, hP id _ h1 h3, h2, h3, h4⟩
theorem FshV.keep {H H' : AHeap} {N : Nat} {P P' : Nat → Prop} {l : List Int} {v : AV} (h : FshV H P l v) (hF : Fresh H N) (hk : ∀ id, P id → id < N → H' id = H id) (hP : ∀ id, P id → id < N → P' id) : FshV H' P' l v := by
  rcases h with h | ⟨h0, id, ds, h1, h2, h3, h4⟩
  · exact .inl h
  · exact .inr ⟨h0, id, ds, hP id h1 (hF.lt h3), h2, (hk id h1 (hF.lt h3)).trans h3, h4⟩
theorem FshV.fsh {H : AHeap} {P : Nat → Prop} {l : List Int} {v : AV} (h : FshV H P l v) {lo : Nat} (hP : ∀ id, P id → lo ≤ id) : Fsh H lo l v := by
  rcases h with h | ⟨h0, id, ds, h1, h2, h3, h4⟩
  · exact .inl h
  · exact .inr ⟨h0, id, ds, hP id h1, h2, h3, h4⟩
structure AtV (H : AHeap) (P : Nat → Prop) (s : SumV) (a b c d e : AV) : Prop where
  r : FshV H P s.r a
  w : FshV H P s.w b
  t : FshV H P s.t c
  g : FshV H P s.g d
  c : FshV H P s.c e
theorem FshAt.v {H : AHeap} {lo : Nat} {s : SumV} {a b c d e : AV} (h : FshAt H lo s a b c d e) {P : Nat → Prop} (hP : ∀ id o, lo ≤ id → H id = some o → P id) : AtV H P s a b c d e := ⟨h.r.v hP, h.w.v hP, h.t.v hP, h.g.v hP, h.c.v hP⟩
theorem AtV.keep {H H' : AHeap} {N : Nat} {P P' : Nat → Prop} {s : SumV} {a b c d e : AV} (h : AtV H P s a b c d e) (hF : Fresh H N) (hk : ∀ id, P id → id < N → H' id = H id) (hP : ∀ id, P id → id < N → P' id) : AtV H' P' s a b c d e :=
  ⟨h.r.keep hF hk hP, h.w.keep hF hk hP, h.t.keep hF hk hP, h.g.keep hF hk hP, h.c.keep hF hk hP⟩
theorem AtV.fsh {H : AHeap} {P : Nat → Prop} {s : SumV} {a b c d e : AV} (h : AtV H P s a b c d e) {lo : Nat} (hP : ∀ id, P id → lo ≤ id) : FshAt H lo s a b c d e := ⟨h.r.fsh hP, h.w.fsh hP, h.t.fsh hP, h.g.fsh hP, h.c.fsh hP⟩

/-- Rows that hold sums, each in blocks apart from the row's own. -/
def Rows5 (H : AHeap) (lo ar : Nat) (es : List (List AV)) (T : Nat → SumV → Prop) : Prop :=
  ∀ (k : Nat) (x : List AV), es[k]? = some x → ∃ a b c d e s, x = [a, b, c, d, e] ∧ AtV H (fun id => lo ≤ id ∧ id ≠ ar) s a b c d e ∧ T k s
theorem Rows5.push {H H' : AHeap} {lo ar N : Nat} {es : List (List AV)} {T : Nat → SumV → Prop} (h : Rows5 H lo ar es T) (hF : Fresh H N) (hk : ∀ j, j < N → (es ≠ [] → j ≠ ar) → H' j = H j)
    {a b c d e : AV} {s : SumV} (hs : AtV H (fun id => lo ≤ id ∧ (es ≠ [] → id ≠ ar)) s a b c d e) (hT : T es.length s) : Rows5 H' lo N (es ++ [[a, b, c, d, e]]) T := fun k x hx => by
  by_cases hkl : k < es.length
  · rw [List.getElem?_append_left hkl] at hx
    obtain ⟨a', b', c', d', e', s', rfl, h1, h2⟩ := h k x hx
    exact ⟨a', b', c', d', e', s', rfl, h1.keep hF (fun id hid hlt => hk id hlt fun _ => hid.2) (fun id hid hlt => ⟨hid.1, by omega⟩), h2⟩
  · rw [List.getElem?_append_right (by omega)] at hx
    have hke : k = es.length := by
      have := (List.getElem?_eq_some_iff.1 hx).1
      simp at this
      omega
    subst hke
    simp at hx
    exact ⟨a, b, c, d, e, s, hx.symm, hs.keep hF (fun id hid hlt => hk id hlt hid.2) (fun id hid hlt => ⟨hid.1, by omega⟩), hT⟩
theorem Rows5.keep {H H' : AHeap} {lo ar N : Nat} {es : List (List AV)} {T : Nat → SumV → Prop} (h : Rows5 H lo ar es T) (hF : Fresh H N) (hk : ∀ j, lo ≤ j → j < N → H' j = H j) : Rows5 H' lo ar es T := fun k x hx => by
  obtain ⟨a, b, c, d, e, s, rfl, h1, h2⟩ := h k x hx
  exact ⟨a, b, c, d, e, s, rfl, h1.keep hF (fun id hid hlt => hk id hid.1 hlt) (fun id hid _ => hid), h2⟩
theorem Rows5.nil {H : AHeap} {lo ar : Nat} {T : Nat → SumV → Prop} : Rows5 H lo ar [] T := fun k x hx => by simp at hx
end Go.Proofs.YtanpcmkhhpaeiaaGreatDoor

/- touch: what each Fun does by itself, all of them. -/
namespace Go.Proofs.YtanpcmkhhpaeiaaGreatDoor
set_option linter.unusedSimpArgs false
set_option linter.unusedVariables false
open Go Go.Fw
def ownP (p : PrgV) (k : Nat) : SumV := match p.funs[k]? with | some f => ownV f.code | none => noS
/-- What programs the statements go over. -/
structure PrgV.Shr (p : PrgV) : Prop where
  n : p.funs.length ≤ 1000
  c : ∀ f ∈ p.funs, f.code.length ≤ 100000
section
variable {A : Nat → AV} {H : AHeap} {N bo : Nat} {fs : List Fr} {Q : Post} {p : PrgV}
theorem of_x {c : ACode} (hc : a_of_x = c) (hp : p.Shr) (h1 : A 1 = .ip p.cells 0) (h4 : A 4 = .mp bo 0) (hb : H bo = some (.blk [.sl .nil 0 []])) (hF : Fresh H N)
    (hk : ∀ A' H' N' vo es ar, A' 1 = .ip p.cells 0 → A' 4 = .mp bo 0 → N ≤ N' → Fresh H' N' → (∀ j, j < N → j ≠ bo → H' j = H j) → H' bo = some (.blk [vo]) → Arr H' N es vo ar → es.length = p.funs.length → Rows5 H' N ar es (fun k s => s = ownP p k) → onward Tryz.prog fs Q .normal ⟨A', H', N'⟩) : run Tryz.prog c fs Q ⟨A, H, N⟩ := by
  subst hc
  have hbN := hF.lt hb
  have hn := hp.n
  have ld2 : ∀ X, aload X false 1 (.ip p.cells 2) = some (.sl p.fk 5 (funCells p.funs)) := fun _ => rfl
  have af2 : afield 2 (.ip p.cells 0) = some (.ip p.cells 2) := rfl
  have hlen : alen 1 (.sl p.fk 5 (funCells p.funs)) = some (p.funs.length : Int) := by simp [alen, funCells]
  simp [a_of_x, h1, af2, ld2, aload_ip, hlen, -aload, -afield, -alen]
  refine run_loop (fun m s => ∃ (j ar : Nat) (vo : AV) (es : List (List AV)), j ≤ p.funs.length ∧ m = p.funs.length - j ∧ s.A 1 = .ip p.cells 0 ∧ s.A 4 = .mp bo 0 ∧ s.A 16 = .sl p.fk 5 (funCells p.funs) ∧ s.A 17 = i64 p.funs.length ∧ s.A 18 = i64 j ∧ N ≤ s.N ∧ Fresh s.H s.N ∧ (∀ i, i < N → i ≠ bo → s.H i = H i) ∧ s.H bo = some (.blk [vo]) ∧ Arr s.H N es vo ar ∧ es.length = j ∧ Rows5 s.H N ar es (fun k s => s = ownP p k)) p.funs.length ?_ ?_
  · exact ⟨0, 0, .sl .nil 0 [], [], by omega, by omega, by simp [h1], by simp [h4], by simp, by simp, by simp, Nat.le_refl _, hF, fun _ _ _ => rfl, hb, ⟨by simp, .inl ⟨rfl, rfl⟩⟩, rfl, .nil⟩
  · rintro m A1 H1 N1 ⟨j, ar, vo, es, hj, rfl, e1, e4, e16, e17, e18, hN1, hF1, hold, hbo, hA, hel, hR⟩
    simp only at e1 e4 e16 e17 e18 hN1 hF1 hold hbo hA hR
    by_cases hjl : j < p.funs.length
    · obtain ⟨f, hf⟩ : ∃ f, p.funs[j]? = some f := ⟨p.funs[j], List.getElem?_eq_getElem hjl⟩
      have hq : aindex 5 (.sl p.fk 5 (funCells p.funs)) (i64 (j : Nat)) = some (.ip f.cells 0) := aindex_sl (by omega) (by simp [funCells, hf])
      have lf : ∀ X, aload X true 5 (.ip f.cells 0) = some (.agg f.cells) := fun X => rfl
      have hfc : f.cells = [str f.name, bl f.thread, i64 f.params, i64 f.regs, .sl f.k 6 (codeCells f.code)] := rfl
      have hj2 : (j : Int) < p.funs.length := by omega
      have hcl := hp.c f (List.mem_of_getElem? hf)
      rw [hfc] at hq lf
      have n1 : ¬ bo = N1 := by omega
      have hvc := hA.cells
      generalize hFC : funCells p.funs = FC at e16 hq
      simp [a_touch_Ofb2, e16, e17, e18, e4, hj2, hq, lf, splice, -aload]
      have lvo : aload (H1.set N1 (.blk [str f.name, bl f.thread, i64 f.params, i64 f.regs, .sl f.k 6 (codeCells f.code)])) false 1 (.mp bo 0) = some vo := by simp [aload, n1, hbo]
      have lfu : aload (H1.set N1 (.blk [str f.name, bl f.thread, i64 f.params, i64 f.regs, .sl f.k 6 (codeCells f.code)])) true 5 (.mp N1 0) = some (.agg [str f.name, bl f.thread, i64 f.params, i64 f.regs, .sl f.k 6 (codeCells f.code)]) := by simp [aload]
      simp [lvo, lfu, hvc, -aload, -AV.cells]
      refine (p_Own (code := f.code) (.sl _) rfl rfl rfl rfl (by omega) (N1 + 1)).monoF ?_
      rintro r2 H2 N2 ⟨hN2, hk2, w1, w2, w3, w4, w5, rfl, hf2⟩ hF2 _
      have hF1' : Fresh (H1.set N1 (.blk [str f.name, bl f.thread, i64 f.params, i64 f.regs, .sl f.k 6 (codeCells f.code)])) (N1 + 1) := hF1.set _
      have k12 : ∀ i, i < N1 → H2 i = H1 i := fun i hi => by
        rw [hk2 i (by omega)]; simp only [AHeap.set]; rw [if_neg (by omega)]
      have hA2 : Arr H2 N es vo ar := hA.keep hF1 fun i _ hi => k12 i hi
      obtain ⟨H', happ, hA3, hF3, ho3, hk3⟩ := hA2.push (x := [w1, w2, w3, w4, w5]) hF2 (by omega) rfl (by omega)
      have c1 := hf2.r.lst.cells
      have c2 := hf2.w.lst.cells
      have c3 := hf2.t.lst.cells
      have c4 := hf2.g.lst.cells
      have c5 := hf2.c.lst.cells
      have hb3 : H' bo = some (.blk [vo]) := by rw [ho3 bo (by omega), k12 bo (by omega)]; exact hbo
      have ha5 : AtV H2 (fun id => N ≤ id ∧ (es ≠ [] → id ≠ ar)) (ownV f.code) w1 w2 w3 w4 w5 := hf2.v fun id o hid _ => ⟨by omega, fun h0 => by
        obtain ⟨_, ⟨h1, _⟩ | ⟨_, _, _, h2⟩⟩ := hA
        · exact absurd h1 h0
        · have := hF1.lt h2; omega⟩
      have hR3 := (hR.keep (H' := H2) hF1 (fun i _ hi => k12 i hi)).push hF2 hk3 ha5 (by rw [hel]; unfold ownP; rw [hf])
      simp [afterKK_eq, happ, hb3, e4, splice, e16, e17, e18, e1]
      refine ⟨fun id o h => (hk2 id (hF1'.lt h)).trans h, p.funs.length - (j + 1), by omega, j + 1, by omega, rfl, by rw [wrap_i64 (by omega) (by omega)]; rfl, by omega, fun i hi => ?_, fun i hi hne => ?_, N2, es ++ [[w1, w2, w3, w4, w5]], ?_, by simp [hel], ?_⟩
      · simp only [AHeap.set]
        rw [if_neg (by omega)]
        exact hF3 i hi
      · rw [if_neg hne, ho3 i hi, k12 i (by omega)]
        exact hold i hi hne
      · exact hA3.keep hF3 fun i hi _ => by simp only [AHeap.set]; rw [if_neg (by omega)]
      · exact hR3.keep hF3 fun i hi _ => by simp only [AHeap.set]; rw [if_neg (by omega)]
    · have hj2 : ¬ (j : Int) < p.funs.length := by omega
      have hje : j = p.funs.length := by omega
      simp [a_touch_Ofb2, e16, e17, e18, e4, hj2]
      exact hk _ _ _ vo es ar (by simp [e1]) (by simp [e4]) hN1 hF1 hold hbo hA (by omega) hR

theorem of_y {c : ACode} (hc : a_of_y = c) (hp : p.Shr) {vo : AV} {es : List (List AV)} {ar lo1 : Nat} (h4 : A 4 = .mp bo 0) (h7 : A 7 = .sl .nil 0 []) (hb : H bo = some (.blk [vo])) (hF : Fresh H N) (hA : Arr H lo1 es vo ar) (hel : es.length = p.funs.length)
    (hR : Rows5 H lo1 ar es (fun k s => s = ownP p k)) (hcalls : ∀ k, k < p.funs.length → ∀ c, c ∈ (ownP p k).c → ∃ c' : Nat, c = c' ∧ c' < p.funs.length)
    (hk : ∀ A' H' N' v es2 ar2, A' 7 = v → N ≤ N' → Fresh H' N' → (∀ j, j < N → H' j = H j) → Arr H' N es2 v ar2 → es2.length = p.funs.length → Rows5 H' N ar2 es2 (fun k s => IsSum (ownP p) (Rchd (ownP p) k) s) → onward Tryz.prog fs Q .normal ⟨A', H', N'⟩) : run Tryz.prog c fs Q ⟨A, H, N⟩ := by
  subst hc
  have hbN := hF.lt hb
  have hn := hp.n
  have hlen : alen 1 vo = some (p.funs.length : Int) := by rw [← hel]; exact hA.rd.len
  have lvo : aload H false 1 (.mp bo 0) = some vo := by simp [aload, hb]
  have hvc := hA.cells
  have hown : ∀ k, k < p.funs.length → ∃ f ∈ p.funs, ownP p k = ownV f.code := fun k hk => ⟨p.funs[k], List.getElem_mem hk, by unfold ownP; rw [List.getElem?_eq_getElem hk]⟩
  have hM : ∀ k, k < p.funs.length → (ownP p k).le 100000 := fun k hk => by
    obtain ⟨f, hf, e⟩ := hown k hk
    rw [e]
    have h1 := ownV_le f.code
    have h2 := hp.c f hf
    obtain ⟨q1, q2, q3, q4, q5⟩ := h1
    exact ⟨by omega, by omega, by omega, by omega, by omega⟩
  simp [a_of_y, h4, lvo, hlen, -aload, -alen]
  refine run_loop (fun m s => ∃ (j ar2 : Nat) (v : AV) (es2 : List (List AV)), j ≤ p.funs.length ∧ m = p.funs.length - j ∧ s.A 4 = .mp bo 0 ∧ s.A 7 = v ∧ s.A 29 = i64 p.funs.length ∧ s.A 30 = i64 j ∧ N ≤ s.N ∧ Fresh s.H s.N ∧ (∀ i, i < N → s.H i = H i) ∧ Arr s.H N es2 v ar2 ∧ es2.length = j ∧ Rows5 s.H N ar2 es2 (fun k s => IsSum (ownP p) (Rchd (ownP p) k) s)) p.funs.length ?_ ?_
  · exact ⟨0, 0, .sl .nil 0 [], [], by omega, by omega, by simp [h4], by simp [h7], by simp, by simp, Nat.le_refl _, hF, fun _ _ => rfl, ⟨by simp, .inl ⟨rfl, rfl⟩⟩, rfl, .nil⟩
  · rintro m A1 H1 N1 ⟨j, ar2, v, es2, hj, rfl, e4, e7, e29, e30, hN1, hF1, hold, hA1, hel1, hR1⟩
    simp only at e4 e7 e29 e30 hN1 hF1 hold hA1 hR1
    have hvc1 := hA1.cells
    by_cases hjl : j < p.funs.length
    · have hj2 : (j : Int) < p.funs.length := by omega
      have hb1 : H1 bo = some (.blk [vo]) := (hold bo hbN).trans hb
      have hC : Ctx (ownP p) p.funs.length 100000 H1 N1 bo vo es := by
        refine ⟨hF1, hb1, RdSl.keepF hA.rd hF hold, hel, fun k x hx => ?_, fun k hk f hf => ?_, hM, by omega, by omega, hcalls⟩
        · obtain ⟨a, b, c, d, e, s, rfl, h1, rfl⟩ := hR k x hx
          exact ⟨a, b, c, d, e, rfl, ((h1.fsh (lo := lo1) fun id hid => hid.1).at).keep hF hold⟩
        · obtain ⟨f', _, e⟩ := hown k hk
          rw [e]
          exact ownV_lt _ _
      simp [a_touch_Ofb1, e4, e7, e29, e30, hj2, splice]
      obtain ⟨Hx, hHx⟩ : ∃ Hx, ((((H1.set N1 (.blk [.sl .nil 0 [], .sl .nil 0 [], .sl .nil 0 [], .sl .nil 0 [], .sl .nil 0 []])).set (N1 + 1) (.map [])).set (N1 + 1 + 1) (.blk [.mm (N1 + 1)])).set (N1 + 1 + 1 + 1) (.blk [.fn (.func 31) [] [.mp (N1 + 1 + 1) 0, .mp N1 0, .mp bo 0, .mp (N1 + 1 + 1 + 1) 0]])) = Hx := ⟨_, rfl⟩
      rw [hHx]
      have hVI : VI (ownP p) p.funs.length H1 N1 bo Hx (N1 + 4) [] := by
        refine ⟨fun i hi => ?_, ⟨.sl .nil 0 [], .sl .nil 0 [], .sl .nil 0 [], .sl .nil 0 [], .sl .nil 0 [], noS, ?_, ⟨.inl ⟨rfl, rfl⟩, .inl ⟨rfl, rfl⟩, .inl ⟨rfl, rfl⟩, .inl ⟨rfl, rfl⟩, .inl ⟨rfl, rfl⟩⟩, (IsSum.none _).congr fun k => by simp⟩, ?_, ?_, ?_, ?_, by omega, fun k hk => by simp at hk⟩
        · rw [← hHx]; simp only [AHeap.set]; repeat rw [if_neg (by omega)]
        · rw [← hHx]; simp only [AHeap.set]; rw [if_neg (by omega), if_neg (by omega), if_neg (by omega)]; simp only [if_true]
        · rw [← hHx]; simp only [AHeap.set]; rw [if_neg (by omega), if_neg (by omega)]; simp only [if_true, List.map_nil]
        · rw [← hHx]; simp only [AHeap.set]; rw [if_neg (by omega)]; simp only [if_true]
        · rw [← hHx]; simp only [AHeap.set, if_true]; rfl
        · intro i hi
          rw [← hHx]; simp only [AHeap.set]
          repeat rw [if_neg (by omega)]
          exact hF1 i (by omega)
      clear hHx
      refine ACall.mono (p_visit hC _ Hx (N1 + 4) [] j hjl hVI rfl) ?_
      rintro r5 H5 N5 ⟨rfl, L', hV, hN5, hP⟩
      obtain ⟨v1, v2, v3, v4, v5, s, hba, hfs, hsum⟩ := hV.ba
      have hs2 : IsSum (ownP p) (Rchd (ownP p) j) s := hsum.congr fun m => by
        constructor
        · intro hm
          rcases hP.rch m hm with h | h
          · simp at h
          · exact h
        · intro hm
          exact Rchd.closed (L := (· ∈ L')) hP.has (fun k hk c hc => hP.clo k hk (by simp) c hc) hm
      have c1 := hfs.r.lst.cells
      have c2 := hfs.w.lst.cells
      have c3 := hfs.t.lst.cells
      have c4 := hfs.g.lst.cells
      have c5 := hfs.c.lst.cells
      have hA5 : Arr H5 N es2 v ar2 := hA1.keep hF1 fun i _ hi => hV.old i hi
      obtain ⟨H', happ, hA6, hF6, ho6, hk6⟩ := hA5.push (x := [v1, v2, v3, v4, v5]) hV.F (by have := hV.le; omega) rfl (by omega)
      have ha5 : AtV H5 (fun id => N ≤ id ∧ (es2 ≠ [] → id ≠ ar2)) s v1 v2 v3 v4 v5 := hfs.v fun id o hid _ => ⟨by omega, fun h0 => by
        obtain ⟨_, ⟨h1, _⟩ | ⟨_, _, _, h2⟩⟩ := hA1
        · exact absurd h1 h0
        · have := hF1.lt h2; omega⟩
      have hR6 := (hR1.keep (H' := H5) hF1 (fun i _ hi => hV.old i hi)).push hV.F hk6 ha5 (by rw [hel1]; exact hs2)
      simp [e7, hba, happ, e4, e29, e30, splice]
      refine ⟨p.funs.length - (j + 1), by omega, j + 1, by omega, rfl, by rw [wrap_i64 (by omega) (by omega)]; rfl, by have := hV.le; omega, hF6, fun i hi => ?_, N5, es2 ++ [[v1, v2, v3, v4, v5]], hA6, by simp [hel1], hR6⟩
      rw [ho6 i hi, hV.old i (by omega)]
      exact hold i hi
    · have hj2 : ¬ (j : Int) < p.funs.length := by omega
      have hje : j = p.funs.length := by omega
      simp [a_touch_Ofb1, e29, e30, hj2]
      exact hk _ _ _ v es2 ar2 (by simp [e7]) hN1 hF1 hold hA1 (by omega) hR1
end
end Go.Proofs.YtanpcmkhhpaeiaaGreatDoor

/- touch: what each Fun does in all. -/
namespace Go.Proofs.YtanpcmkhhpaeiaaGreatDoor
set_option linter.unusedSimpArgs false
set_option linter.unusedVariables false
open Go Go.Fw
theorem numsOf_mem {op : Int} {code : List Ins} {v : Int} : v ∈ numsOf op code ↔ ∃ x ∈ code, x.op = op ∧ x.n = v := by
  unfold numsOf
  simp only [List.mem_map, List.mem_filter, beq_iff_eq]
  exact ⟨fun ⟨x, ⟨h1, h2⟩, h3⟩ => ⟨x, h1, h2, h3⟩, fun ⟨x, h1, h2, h3⟩ => ⟨x, ⟨h1, h2⟩, h3⟩⟩
theorem rawV_get (code : List Ins) (f : Nat) (hf : f < 5) : (rawV code).get f = numsOf (opK f) code := by
  match f, hf with
  | 0, _ => rfl
  | 1, _ => rfl
  | 2, _ => rfl
  | 3, _ => rfl
  | 4, _ => rfl
theorem ownV_mem {code : List Ins} {f : Nat} (hf : f < 5) {v : Int} : v ∈ (ownV code).get f ↔ ∃ x ∈ code, x.op = opK f ∧ x.n = v := by
  unfold ownV
  rw [bothS_get, joinL_mem, noS_get, rawV_get code f hf, numsOf_mem]
  simp
theorem calls_in {p : PrgV} (h : prgB p = true) : ∀ k, k < p.funs.length → ∀ c, c ∈ (ownP p k).c → ∃ c' : Nat, c = c' ∧ c' < p.funs.length := fun k hk c hc => by
  have hf : p.funs[k]? = some p.funs[k] := List.getElem?_eq_getElem hk
  unfold ownP at hc
  rw [hf] at hc
  obtain ⟨x, hx, hop, rfl⟩ := (ownV_mem (f := 4) (by omega)).1 (show c ∈ (ownV p.funs[k].code).get 4 from hc)
  unfold prgB at h
  simp only [Bool.and_eq_true, List.all_eq_true] at h
  have hfb := h.2.2.2 _ (List.getElem_mem hk)
  unfold funB at hfb
  simp only [Bool.and_eq_true, List.all_eq_true] at hfb
  have hm := hfb.2.2 x hx
  unfold mayB mayA numOk at hm
  have hop' : x.op = 10 := hop
  rw [hop'] at hm
  have h6 : (ofR 10).n = 6 := by kernel_rfl
  simp [h6] at hm
  have hw := hm.1.2.2.1
  unfold within at hw
  simp only [decide_eq_true_eq] at hw
  exact ⟨x.n.toNat, by omega, by omega⟩

theorem Arr.mono {H : AHeap} {lo lo' : Nat} {es : List (List AV)} {v : AV} {ar : Nat} (h : Arr H lo es v ar) (hl : lo' ≤ lo) : Arr H lo' es v ar := by
  obtain ⟨hs, h1 | ⟨h0, h1, h2⟩⟩ := h
  · exact ⟨hs, .inl h1⟩
  · exact ⟨hs, .inr ⟨h0, by omega, h2⟩⟩
theorem Rows5.mono {H : AHeap} {lo lo' ar N : Nat} {es : List (List AV)} {T : Nat → SumV → Prop} (h : Rows5 H lo ar es T) (hF : Fresh H N) (hl : lo' ≤ lo) : Rows5 H lo' ar es T := fun k x hx => by
  obtain ⟨a, b, c, d, e, s, rfl, h1, h2⟩ := h k x hx
  exact ⟨a, b, c, d, e, s, rfl, h1.keep hF (fun _ _ _ => rfl) (fun id hid _ => ⟨by omega, hid.2⟩), h2⟩

theorem p_Of {p : PrgV} (hp : p.Fit) (hs : p.Shr) (H : AHeap) (N : Nat) : ACall Tryz.prog 12 [.agg p.cells] H N (fun r H' N' => N ≤ N' ∧ (∀ j, j < N → H' j = H j) ∧
    ((prgB p = false ∧ r = .tup [.sl .nil 0 [], i64 4]) ∨ (prgB p = true ∧ ∃ v es ar, r = .tup [v, i64 0] ∧ Arr H' N es v ar ∧ es.length = p.funs.length ∧ Rows5 H' N ar es (fun k s => IsSum (ownP p) (Rchd (ownP p) k) s)))) := by
  obtain ⟨_, ex⟩ : ∃ c, a_of_x = c := ⟨_, rfl⟩
  obtain ⟨_, ey⟩ : ∃ c, a_of_y = c := ⟨_, rfl⟩
  refine acallF mixed c_touch_Of (by simp) fun hF => ?_
  unfold a_touch_Of
  rw [ex, ey]
  have lp : ∀ X, aload X true 3 (.ip p.cells 0) = some (.agg p.cells) := fun X => rfl
  have hc3 : (AV.agg p.cells).cells = some p.cells := rfl
  simp [lp, aload_ip, -aload]
  refine (p_May hp).acall ?_
  cases hb : prgB p with
  | false =>
    simp
  | true =>
    simp
    refine of_x ex hs (bo := N) (by simp) (by simp) (by simp [AHeap.set]) (hF.set _) fun A1 H1 N1 vo es ar e1 e4 hN1 hF1 hold1 hbo1 hA1 hel1 hR1 => ?_
    simp
    refine of_y ey hs (bo := N) (lo1 := N + 1) (by simp [e4]) (by simp) hbo1 hF1 hA1 hel1 hR1 (calls_in hb) fun A2 H2 N2 v es2 ar2 e7 hN2 hF2 hold2 hA2 hel2 hR2 => ?_
    have hvc := hA2.cells
    simp [e7, hvc]
    refine ⟨by omega, fun j hj => ?_, es2, ar2, hA2.mono (by omega), hel2, Rows5.mono hR2 hF2 (by omega)⟩
    rw [hold2 j (by omega), hold1 j (by omega) (by omega)]
    simp only [AHeap.set]
    rw [if_neg (by omega)]
end Go.Proofs.YtanpcmkhhpaeiaaGreatDoor
