/- dom: the law DomTree. -/
import Derived.Test.YtmbbklddjkmcmaaB3
import Derived.Test.YtmbbklddjkmcmaaBR
namespace Go.Proofs.Ytmbbklddjkmcmaa
set_option linter.unusedSimpArgs false
set_option linter.unusedVariables false
open Go Go.Fw Go.Dm

/-- Marks on n blocks. -/
def marks (n : Nat) (p : Nat → Bool) : List AV := (List.range n).map fun x => bl (p x)
theorem marks_len {n : Nat} {p : Nat → Bool} : (marks n p).length = n := by simp [marks]
theorem marks_at {n : Nat} {p : Nat → Bool} {x : Nat} (hx : x < n) : (marks n p)[x]? = some (bl (p x)) := by simp [marks, hx]
theorem marks_none {n : Nat} : List.replicate n (bl false) = marks n fun _ => false := by
  apply List.ext_getElem?
  intro i
  by_cases hi : i < n
  · rw [marks_at hi]; simp [hi]
  · simp [marks, hi]
theorem marks_set {n : Nat} {p : Nat → Bool} {x : Nat} : (marks n p).set x (bl true) = marks n fun y => p y || y == x := by
  apply List.ext_getElem?
  intro i
  rw [List.getElem?_set]
  by_cases hi : i < n
  · by_cases hx : x = i
    · subst hx
      simp [marks, hi]
    · rw [if_neg hx, marks_at hi, marks_at hi]
      simp [Ne.symm hx]
  · by_cases hx : x = i
    · subst hx; simp [marks_len, hi, marks]
    · simp [hx, marks, hi]

section
variable {g : List RowV} {L : List Int} {bs : List Nat} {A : Nat → AV} {H : AHeap} {N : Nat} {fs : List Fr} {Q : Post}

theorem Ups.last_zero (h : TreeOk g L bs) {b : Nat} {l : List Nat} (hl : Ups L b l) (hb : Rch (Edge g) b) : ∃ m, l = m ++ [0] ∧ 0 ∉ m := by
  induction hl with
  | @last b h1 =>
    by_cases hb0 : b = 0
    · subst hb0; exact ⟨[], rfl, by simp⟩
    · obtain ⟨d, hd⟩ := h.sol.all b hb hb0
      rw [nxOf_minus h1] at hd; cases hd
  | @more b d l h1 h2 ih =>
    have hn : nxOf L b = some d := by unfold nxOf; rw [h1]; simp
    obtain ⟨m, rfl, hm⟩ := ih (h.sol.fit.dn b d hb hn).1
    refine ⟨b :: m, rfl, ?_⟩
    have hb0 : b ≠ 0 := fun h0 => by subst h0; rw [h.sol.fit.z] at hn; cases hn
    simp [hm, Ne.symm hb0]

theorem Ups.short (h : TreeOk g L bs) {b : Nat} {l : List Nat} (hl : Ups L b l) (hb : Rch (Edge g) b) : l.length ≤ bs.idxOf b + 1 := by
  induction hl with
  | last h1 => simp
  | @more b d l h1 h2 ih =>
    have hn : nxOf L b = some d := by unfold nxOf; rw [h1]; simp
    have hd := h.sol.fit.dn b d hb hn
    have := ih hd.1
    have h3 : bs.idxOf d < bs.idxOf b := hd.2.1
    simp only [List.length_cons]
    omega

theorem Ups.head {b : Nat} {l : List Nat} (hl : Ups L b l) : l[0]? = some b := by cases hl <;> rfl
theorem Ups.next {b : Nat} {l : List Nat} (hl : Ups L b l) : ∀ {i c d : Nat}, l[i]? = some c → l[i + 1]? = some d → L[c]? = some (d : Int) := by
  induction hl with
  | last h1 => intro i c d _ h; simp at h
  | @more b e l h1 h2 ih =>
    intro i c d hc hd
    cases i with
    | zero =>
      simp at hc hd
      subst hc
      rw [h2.head] at hd
      cases hd
      exact h1
    | succ i => exact ih (by simpa using hc) (by simpa using hd)

/-- On the way up. -/
structure UpI (x : GraphV) (A0 : Nat → AV) (l : List Nat) (id : Nat) (N K k : Nat) (s : St) : Prop where
  ex : ∃ (i c : Nat) (p : Nat → Bool), k = K - i ∧ l[i]? = some c ∧ (∀ t ∈ [0, 1, 5, 7, 8, 9], s.A t = A0 t) ∧ s.A 10 = i64 c ∧ s.A 11 = i64 i ∧ s.N = N ∧ s.H id = some (.blk (marks x.g.length p)) ∧ ∀ y, p y = true ↔ y ∈ l.take i

theorem tree_up {x : GraphV} (hn : x.g.length ≤ 40) (hT : TreeOk x.g L bs) {b id : Nat} {l : List Nat} (hl : Ups L b l) (hb : Rch (Edge x.g) b) (h0 : A 0 = x.av) (h5 : A 5 = treeV x.g.length L bs) (h9 : A 9 = .ms id 0 x.g.length 1) (h10 : A 10 = i64 b)
    (hH : H id = some (.blk (marks x.g.length fun _ => false)))
    (hk : ∀ A' H' p, (∀ t ∈ [0, 1, 5, 7, 8, 9], A' t = A t) → A' 10 = i64 0 → H' id = some (.blk (marks x.g.length p)) → (∀ y, p y = true ↔ y ∈ l ∧ y ≠ 0) → onward Try.prog fs Q .normal ⟨A', H', N⟩) :
    run Try.prog a_Tree_up fs Q ⟨A, H, N⟩ := by
  obtain ⟨m, rfl, hm⟩ := hl.last_zero hT hb
  have hsh := hl.short hT hb
  have hix := row_pl hT b hb
  have hbl := row_len hT
  have hlen := x.len
  simp at hsh
  simp [a_Tree_up]
  obtain ⟨K, hK⟩ : ∃ K, m.length + 1 = K := ⟨_, rfl⟩
  refine run_loop (UpI x A (m ++ [0]) id N K) K ?_ ?_
  · exact ⟨0, b, fun _ => false, by omega, hl.head, by simp, by simp [h10], by simp, rfl, hH, by simp⟩
  · rintro k A1 H1 N1 ⟨i, c, p, rfl, hc, hA, e10, e11, hNe, hid, hp⟩
    simp only at hA e10 e11 hNe hid
    subst hNe
    have hA' := hA
    simp at hA'
    obtain ⟨g0, g1, g5, g7, g8, g9⟩ := hA'
    rw [h0] at g0
    rw [h5] at g5
    rw [h9] at g9
    have hil := (List.getElem?_eq_some_iff.1 hc).1
    simp at hil
    by_cases hie : i = m.length
    · subst hie
      simp at hc
      subst hc
      simp [a_bobbinlaw12_DomTreeb5, g0, e10, e11, hlen, show (m.length : Int) ≤ x.g.length by omega, -alen]
      refine hk _ _ p (by simpa [g0] using hA) (by simp [e10]) hid fun y => ?_
      rw [hp y]
      simp
      constructor
      · intro h; exact ⟨.inl h, fun h0 => hm (h0 ▸ h)⟩
      · rintro ⟨h | h, h2⟩
        · exact h
        · exact absurd h h2
    · have him : i < m.length := by omega
      have hcm : m[i]? = some c := by rw [List.getElem?_append_left him] at hc; exact hc
      have hc0 : c ≠ 0 := fun h => hm (h ▸ List.mem_of_getElem? hcm)
      obtain ⟨d, hd⟩ : ∃ d, (m ++ [0])[i + 1]? = some d := ⟨_, List.getElem?_eq_getElem (by simp; omega)⟩
      have hLc := hl.next hc hd
      have hrc : Rch (Edge x.g) c := (hl.mem.1 (List.mem_of_getElem? hc)).rch hT.sol.fit hb
      have qc := rchI_of hT hrc
      have hcg : c < x.g.length := hT.row.lt c ((hT.row.mem c).2 hrc)
      have hnx : nxI L bs c = d := by simp [nxI, qc, List.getD, hLc]
      have ix : aindex 1 (.ms id 0 x.g.length 1) (i64 c) = some (.mp id c) := by simp [aindex, hcg]
      have hst : astore H1 1 (.mp id c) (bl true) = some (H1.set id (.blk (marks x.g.length fun y => p y || y == c))) := by
        simp [astore, hid, marks_len, show c + 1 ≤ x.g.length by omega, ← marks_set]
      have wr : IntKind.i64.wrap ((i : Int) + 1) = ((i + 1 : Nat) : Int) := by rw [wrap_i64 (by omega) (by omega)]; rfl
      simp [a_bobbinlaw12_DomTreeb5, g0, g5, g9, e10, e11, hlen, show (i : Int) ≤ x.g.length by omega, show 0 < c by omega, ix, hst, -alen, -astore]
      refine (p_Next hT _).acall ?_
      simp [hnx, e11, wr]
      refine ⟨K - (i + 1), by omega, ⟨i + 1, d, _, by simp, hd, by simpa [g0, g5, g9] using hA, by simp, by simp, rfl, by simp; rfl, fun y => ?_⟩⟩
      rw [List.take_add_one, hc]
      simp [hp y]

/-- Over all blocks: above just those on the way. -/
structure IsI (x : GraphV) (A0 : Nat → AV) (H : AHeap) (N k : Nat) (s : St) : Prop where
  ex : ∃ i, i ≤ x.g.length ∧ k = x.g.length - i ∧ (∀ t ∈ [0, 1, 5, 7, 8, 9], s.A t = A0 t) ∧ s.A 12 = i64 i ∧ s.H = H ∧ s.N = N

theorem tree_is {x : GraphV} (hn : x.g.length ≤ 40) (hT : TreeOk x.g L bs) {b id : Nat} {l : List Nat} {p : Nat → Bool} (hl : Ups L b l) (hb : Rch (Edge x.g) b) (h0 : A 0 = x.av) (h5 : A 5 = treeV x.g.length L bs) (h8 : A 8 = i64 b) (h9 : A 9 = .ms id 0 x.g.length 1)
    (hH : H id = some (.blk (marks x.g.length p))) (hp : ∀ y, p y = true ↔ y ∈ l)
    (hk : ∀ A', (∀ t ∈ [0, 1, 5, 7, 8, 9], A' t = A t) → onward Try.prog fs Q .normal ⟨A', H, N⟩) :
    run Try.prog a_Tree_is fs Q ⟨A, H, N⟩ := by
  have hlen := x.len
  simp [a_Tree_is]
  refine run_loop (IsI x A H N) x.g.length ?_ ?_
  · exact ⟨0, by omega, by omega, by simp, by simp, rfl, rfl⟩
  · rintro k A1 H1 N1 ⟨i, hi, rfl, hA, e12, hHe, hNe⟩
    simp only at hA e12 hHe hNe
    subst hHe hNe
    have hA' := hA
    simp at hA'
    obtain ⟨g0, g1, g5, g7, g8, g9⟩ := hA'
    rw [h0] at g0
    rw [h5] at g5
    rw [h8] at g8
    rw [h9] at g9
    by_cases hil : i = x.g.length
    · subst hil
      simp [a_bobbinlaw12_DomTreeb4, g0, e12, hlen, -alen]
      exact hk _ (by simpa [g0] using hA)
    · have hlt : i < x.g.length := by omega
      have ix : aindex 1 (.ms id 0 x.g.length 1) (i64 i) = some (.mp id i) := by simp [aindex, hlt]
      have hab : abI L bs i b = p i := by
        rw [Bool.eq_iff_iff, ab_iff hT, hp, hl.mem]
        simp [hb]
      have hld : aload H1 false 1 (.mp id i) = some (bl (p i)) := by simp [aload, apart, hH, marks_at hlt]
      have wr : IntKind.i64.wrap ((i : Int) + 1) = ((i + 1 : Nat) : Int) := by rw [wrap_i64 (by omega) (by omega)]; rfl
      simp [a_bobbinlaw12_DomTreeb4, g0, g5, g8, g9, e12, hlen, hlt, -alen, -aload]
      refine ⟨_, p_Above hT _ _, ?_⟩
      simp [g9, e12, ix, hld, hab, wr, -aload]
      exact ⟨x.g.length - (i + 1), by omega, ⟨i + 1, by omega, rfl, by simpa [g0, g5, g8, g9] using hA, by simp, rfl, rfl⟩⟩

/-- Over all blocks, with the number of those that are reached. -/
structure AllI (x : GraphV) (A0 : Nat → AV) (bs : List Nat) (k : Nat) (s : St) : Prop where
  ex : ∃ j, j ≤ x.g.length ∧ k = x.g.length - j ∧ (∀ t ∈ [0, 1, 5], s.A t = A0 t) ∧ s.A 7 = i64 (rchN bs j) ∧ s.A 8 = i64 j

theorem tree_all {x : GraphV} (hn : x.g.length ≤ 40) (hT : TreeOk x.g L bs) (h0 : A 0 = x.av) (h5 : A 5 = treeV x.g.length L bs) (h7 : A 7 = i64 0)
    (hk : ∀ A' H' N', (∀ t ∈ [0, 1, 5], A' t = A t) → A' 7 = i64 (rchN bs x.g.length) → onward Try.prog fs Q .normal ⟨A', H', N'⟩) :
    run Try.prog a_Tree_all fs Q ⟨A, H, N⟩ := by
  have hlen := x.len
  simp [a_Tree_all]
  refine run_loop (AllI x A bs) x.g.length ?_ ?_
  · exact ⟨0, by omega, by omega, by simp, by simp [h7, rchN], by simp⟩
  · rintro k A1 H1 N1 ⟨j, hj, rfl, hA, e7, e8⟩
    simp only at hA e7 e8
    have hA' := hA
    simp at hA'
    obtain ⟨g0, g1, g5⟩ := hA'
    rw [h0] at g0
    rw [h5] at g5
    unfold a_bobbinlaw12_DomTreeb6
    obtain ⟨_, eu⟩ : ∃ c, a_Tree_up = c := ⟨_, rfl⟩
    rw [eu]
    obtain ⟨_, ei⟩ : ∃ c, a_Tree_is = c := ⟨_, rfl⟩
    rw [ei]
    by_cases hjl : j = x.g.length
    · subst hjl
      simp [g0, e8, hlen, -alen]
      exact hk _ _ _ (by simpa [g0] using hA) (by simp [e7])
    · have hlt : j < x.g.length := by omega
      have hrl := rchN_le (bs := bs) (j := j)
      have hrn := rchN_next (bs := bs) (j := j)
      have wr : IntKind.i64.wrap ((j : Int) + 1) = ((j + 1 : Nat) : Int) := by rw [wrap_i64 (by omega) (by omega)]; rfl
      simp [g0, g5, e8, hlen, hlt, -alen]
      refine (p_Reached hT j).acall ?_
      by_cases hrj : rchI bs j = true
      · have hrj' := (rch_iff hT).1 hrj
        simp at hrj'
        obtain ⟨l, hl⟩ := hT.ups _ (Nat.le_refl _) hrj'
        have w6 : IntKind.i64.wrap ((rchN bs j : Int) + 1) = ((rchN bs (j + 1) : Nat) : Int) := by
          rw [if_pos hrj] at hrn
          rw [hrn, wrap_i64 (by omega) (by omega)]; rfl
        have hmk : amake 1 1 [bl false] (i64 x.g.length) (i64 x.g.length) = some (x.g.length, x.g.length) := by
          simp [amake]; omega
        have hrep : (List.replicate x.g.length [bl false]).flatten = marks x.g.length fun _ => false := by
          rw [← marks_none]; simp
        simp [hrj, g0, e7, e8, w6, hlen, hmk, hrep, -alen]
        rw [← eu]
        refine tree_up (x := x) (id := N1) hn hT hl hrj' ?_ ?_ ?_ ?_ ?_ ?_
        · simp [g0]
        · simp [g5]
        · simp
        · simp
        · simp; exact marks_none
        intro A2 H2 p hA2 h210 hid hp
        have hA2' := hA2
        simp at hA2'
        have h00 : 0 < x.g.length := by omega
        have hst : astore H2 1 (.mp N1 0) (bl true) = some (H2.set N1 (.blk (marks x.g.length fun y => p y || y == 0))) := by
          simp [astore, hid, marks_len, show 1 ≤ x.g.length by omega, ← marks_set]
        have ix : aindex 1 (.ms N1 0 x.g.length 1) (i64 0) = some (.mp N1 0) := by simp [aindex, h00]
        have h0l : 0 ∈ l := by
          obtain ⟨m, rfl, _⟩ := hl.last_zero hT hrj'
          simp
        simp [h210, hA2', ix, hst, -astore]
        rw [← ei]
        refine tree_is (x := x) (id := N1) (b := j) (p := fun y => p y || y == 0) hn hT hl hrj' ?_ ?_ ?_ ?_ ?_ ?_ ?_
        · simp [hA2', g0]
        · simp [hA2', g5]
        · simp [hA2', e8]
        · simp [hA2']
        · simp
        · intro y
          simp [hp y]
          constructor
          · rintro (h | rfl)
            · exact h.1
            · exact h0l
          · intro h
            by_cases hy : y = 0
            · exact .inr hy
            · exact .inl ⟨h, hy⟩
        intro A3 hA3
        simp at hA3
        simp [hA3, hA2', e8, wr]
        exact ⟨x.g.length - (j + 1), by omega, ⟨j + 1, by omega, rfl, by simp [hA3, hA2', g0, g5, g1, h0, h5], by simp [hA3, hA2'], by simp⟩⟩
      · have hrn' : rchN bs (j + 1) = rchN bs j := by rw [hrn, if_neg hrj]; omega
        simp [hrj, e8, wr]
        exact ⟨x.g.length - (j + 1), by omega, ⟨j + 1, by omega, rfl, by simpa [g0, g5] using hA, by simp [e7, hrn'], by simp⟩⟩

/-- Over the order. -/
structure SeenI (x : GraphV) (A0 : Nat → AV) (l : List Nat) (id : Nat) (v : AV) (N k : Nat) (s : St) : Prop where
  ex : ∃ (i : Nat) (p : Nat → Bool), i ≤ l.length ∧ k = l.length - i ∧ (∀ t ∈ [0, 1, 5, 7, 13, 14], s.A t = A0 t) ∧ s.A 15 = i64 i ∧ s.N = N ∧ s.H id = some (.blk (marks x.g.length p)) ∧ RdSl s.H 1 (intCells (natI l)) v ∧ ∀ y, p y = true ↔ y ∈ l.take i

theorem order_before (h : TreeOk g L bs) {i c : Nat} (hi : (orderL L bs)[i]? = some c) : (i = 0 ∧ c = 0) ∨ (0 < i ∧ ∃ d, nxOf L c = some d ∧ d ∈ (orderL L bs).take i) := by
  have hlt := (List.getElem?_eq_some_iff.1 hi).1
  have hc := (List.getElem?_eq_some_iff.1 hi).2
  have hsplit : orderL L bs = (orderL L bs).take i ++ c :: (orderL L bs).drop (i + 1) := by
    rw [← hc, List.getElem_cons_drop, List.take_append_drop]
  rcases pre_first bs.length 0 c _ _ (fun b c hc => ((kids_ok h).mem b c).1 hc) hsplit with ⟨h1, h2⟩ | ⟨y, h1, h2⟩
  · left
    refine ⟨?_, h2⟩
    have := congrArg List.length h1
    simp at this
    rcases this with h3 | h3
    · exact h3
    · rw [h3] at hlt; simp at hlt
  · right
    refine ⟨?_, y, h2, h1⟩
    rcases Nat.eq_zero_or_pos i with h3 | h3
    · subst h3; simp at h1
    · exact h3

theorem tree_seen {x : GraphV} {id : Nat} {v : AV} (hn : x.g.length ≤ 40) (hT : TreeOk x.g L bs) (h0 : A 0 = x.av) (h5 : A 5 = treeV x.g.length L bs) (h13 : A 13 = v) (h14 : A 14 = .ms id 0 x.g.length 1)
    (hH : H id = some (.blk (marks x.g.length fun _ => false))) (hB : Built H 0 1 (.sl .nil 0 []) (intCells (natI (orderL L bs))) v) (hid0 : ∀ i n, v = .ms i 0 n 1 → i ≠ id)
    (hk : ∀ A' H', (∀ t ∈ [0, 1, 5, 7, 13, 14], A' t = A t) → RdSl H' 1 (intCells (natI (orderL L bs))) v → onward Try.prog fs Q .normal ⟨A', H', N⟩) :
    run Try.prog a_Tree_seen fs Q ⟨A, H, N⟩ := by
  have hlen := x.len
  have hol := order_len hT
  have hrl := row_len hT
  simp [a_Tree_seen]
  refine run_loop (SeenI x A (orderL L bs) id v N) (orderL L bs).length ?_ ?_
  · exact ⟨0, fun _ => false, by omega, by omega, by simp, by simp, rfl, hH, hB.rd, by simp⟩
  · rintro k A1 H1 N1 ⟨i, p, hi, rfl, hA, e15, hNe, hid, hrd, hp⟩
    simp only at hA e15 hNe hid hrd
    subst hNe
    have hA' := hA
    simp at hA'
    obtain ⟨g0, g1, g5, g7, g13, g14⟩ := hA'
    rw [h0] at g0
    rw [h5] at g5
    rw [h13] at g13
    rw [h14] at g14
    have hvl := hrd.len
    rw [intCells_len, natI_len] at hvl
    by_cases hil : i = (orderL L bs).length
    · subst hil
      simp [a_bobbinlaw12_DomTreeb3, g13, e15, hvl, -alen]
      exact hk _ _ (by simpa [g13] using hA) hrd
    · have hlt : i < (orderL L bs).length := by omega
      obtain ⟨c, hc⟩ : ∃ c, (orderL L bs)[i]? = some c := ⟨_, List.getElem?_eq_getElem hlt⟩
      have hcm := List.mem_of_getElem? hc
      have hrc := (order_mem hT c).1 hcm
      have hcg : c < x.g.length := hT.row.lt c ((hT.row.mem c).2 hrc)
      have hcell : (intCells (natI (orderL L bs)))[i]? = some [i64 c] := by simp [intCells, natI, hc]
      obtain ⟨q, hq, hqt⟩ := hrd.at (intCells_sz _) hcell
      have hql := hqt.one
      have hpc : p c = false := by
        cases hpc : p c with
        | false => rfl
        | true =>
          exfalso
          have hm := (hp c).1 hpc
          obtain ⟨j, hj, hjc⟩ := List.getElem_of_mem hm
          simp at hj
          rw [List.getElem_take] at hjc
          have h1 := List.getElem?_eq_getElem (l := orderL L bs) (i := j) (by omega)
          rw [hjc] at h1
          have := (List.getElem?_inj (by omega) (order_nodup hT)).1 (h1.trans hc.symm)
          omega
      have ix : aindex 1 (.ms id 0 x.g.length 1) (i64 c) = some (.mp id c) := by simp [aindex, hcg]
      have hld : aload H1 false 1 (.mp id c) = some (bl false) := by simp [aload, apart, hid, marks_at hcg, hpc]
      have hst : astore H1 1 (.mp id c) (bl true) = some (H1.set id (.blk (marks x.g.length fun y => p y || y == c))) := by
        simp [astore, hid, marks_len, show c + 1 ≤ x.g.length by omega, ← marks_set]
      have wr : IntKind.i64.wrap ((i : Int) + 1) = ((i + 1 : Nat) : Int) := by rw [wrap_i64 (by omega) (by omega)]; rfl
      have hrd' : RdSl (H1.set id (.blk (marks x.g.length fun y => p y || y == c))) 1 (intCells (natI (orderL L bs))) v := by
        rcases hrd with ⟨k, z, rfl, hz⟩ | ⟨id2, off, ds, rfl, hm⟩
        · exact .inl ⟨k, z, rfl, hz⟩
        · refine .inr ⟨id2, off, ds, rfl, hm.imp (fun h => h) fun ⟨h1, h2⟩ => ⟨?_, h2⟩⟩
          have : id2 ≠ id := by
            obtain ⟨_, ⟨_, h3, _⟩ | ⟨_, i3, _, h3, _⟩⟩ := hB
            · cases h3
            · cases h3; exact hid0 _ _ rfl
          simp [this, h1]
      have fin : ∀ y, (p y || y == c) = true ↔ y ∈ (orderL L bs).take (i + 1) := fun y => by
        rw [List.take_add_one, hc]
        simp [hp y]
      have c0 : decide ((c : Int) < 0) = false := decide_eq_false (by omega)
      rcases order_before hT hc with ⟨rfl, rfl⟩ | ⟨hi0, d, hd, hdm⟩
      · have hgne : x.g ≠ [] := fun h => by rw [h] at hcg; simp at hcg
        have hq0 : aindex 1 v (i64 0) = some q := hq
        have ix0 : aindex 1 (.ms id 0 x.g.length 1) (i64 0) = some (.mp id 0) := ix
        have hql0 : aload H1 false 1 q = some (i64 0) := hql
        simp [a_bobbinlaw12_DomTreeb3, g0, g13, g14, e15, hvl, hlt, hq0, hql0, hlen, hgne, ix0, hld, hst, -alen, -aload, -astore]
        exact ⟨(orderL L bs).length - 1, by omega, ⟨1, _, by omega, rfl, by simpa [g0, g13, g14] using hA, by simp [show IntKind.i64.wrap 1 = 1 by decide], rfl, by simp, hrd', fin⟩⟩
      · have hpd : p d = true := (hp d).2 hdm
        have hrd2 := (hT.sol.fit.dn c d hrc hd).1
        have hdg : d < x.g.length := hT.row.lt d ((hT.row.mem d).2 hrd2)
        have qc := rchI_of hT hrc
        have hnx : nxI L bs c = d := by simp [nxI, qc, List.getD, nxOf_some hd]
        have ixd : aindex 1 (.ms id 0 x.g.length 1) (i64 d) = some (.mp id d) := by simp [aindex, hdg]
        have hldd : aload H1 false 1 (.mp id d) = some (bl true) := by simp [aload, apart, hid, marks_at hdg, hpd]
        simp [a_bobbinlaw12_DomTreeb3, g0, g5, g13, g14, e15, hvl, hlt, hq, hql, hlen, c0, show ¬ x.g.length ≤ c by omega, ix, hld, hi0, -alen, -aload, -astore]
        refine (p_Next hT _).acall ?_
        simp [hnx, ixd, hldd, e15, g13, g14, hq, hql, ix, hst, wr, show i ≠ 0 by omega, -alen, -aload, -astore]
        exact ⟨(orderL L bs).length - (i + 1), by omega, ⟨i + 1, _, by omega, rfl, by simpa [g0, g5, g13, g14] using hA, by simp, rfl, by simp, hrd', fin⟩⟩

/-- All that are above the block where one stands are marked. -/
structure GoneI (x : GraphV) (A0 : Nat → AV) (H : AHeap) (N k : Nat) (s : St) : Prop where
  ex : ∃ i, i ≤ x.g.length ∧ k = x.g.length - i ∧ (∀ t ∈ [0, 1, 5, 7, 13, 16, 17, 18], s.A t = A0 t) ∧ s.A 19 = i64 i ∧ s.H = H ∧ s.N = N

theorem tree_gone {x : GraphV} (hn : x.g.length ≤ 40) (hT : TreeOk x.g L bs) {b id : Nat} {p : Nat → Bool} (hb : Rch (Edge x.g) b) (h0 : A 0 = x.av) (h5 : A 5 = treeV x.g.length L bs) (h16 : A 16 = .ms id 0 x.g.length 1) (h17 : A 17 = i64 b)
    (hH : H id = some (.blk (marks x.g.length p))) (hp : ∀ y, Up (nxOf L) y b → p y = true)
    (hk : ∀ A', (∀ t ∈ [0, 1, 5, 7, 13, 16, 17, 18], A' t = A t) → onward Try.prog fs Q .normal ⟨A', H, N⟩) :
    run Try.prog a_Tree_gone fs Q ⟨A, H, N⟩ := by
  have hlen := x.len
  simp [a_Tree_gone]
  refine run_loop (GoneI x A H N) x.g.length ?_ ?_
  · exact ⟨0, by omega, by omega, by simp, by simp, rfl, rfl⟩
  · rintro k A1 H1 N1 ⟨i, hi, rfl, hA, e19, hHe, hNe⟩
    simp only at hA e19 hHe hNe
    subst hHe hNe
    have hA' := hA
    simp at hA'
    obtain ⟨g0, g1, g5, g7, g13, g16, g17, g18⟩ := hA'
    rw [h0] at g0
    rw [h5] at g5
    rw [h16] at g16
    rw [h17] at g17
    by_cases hil : i = x.g.length
    · subst hil
      simp [a_bobbinlaw12_DomTreeb1, g0, e19, hlen, -alen]
      exact hk _ (by simpa [g0] using hA)
    · have hlt : i < x.g.length := by omega
      have ix : aindex 1 (.ms id 0 x.g.length 1) (i64 i) = some (.mp id i) := by simp [aindex, hlt]
      have hld : aload H1 false 1 (.mp id i) = some (bl (p i)) := by simp [aload, apart, hH, marks_at hlt]
      have qb := rchI_of hT hb
      have wr : IntKind.i64.wrap ((i : Int) + 1) = ((i + 1 : Nat) : Int) := by rw [wrap_i64 (by omega) (by omega)]; rfl
      simp [a_bobbinlaw12_DomTreeb1, g0, g5, g17, e19, hlen, hlt, -alen, -aload]
      refine (p_Reached hT _).acall ?_
      simp [qb, g5, g17, e19, -alen, -aload]
      refine (p_Above hT _ _).acall ?_
      cases hab : abI L bs i b with
      | false =>
        simp [e19, wr]
        exact ⟨x.g.length - (i + 1), by omega, ⟨i + 1, by omega, rfl, by simpa [g0, g5, g16, g17] using hA, by simp, rfl, rfl⟩⟩
      | true =>
        have hu := ((ab_iff hT).1 hab).2.2.2
        simp at hu
        rw [hp i hu] at hld
        simp [e19, g16, ix, hld, wr, -aload]
        exact ⟨x.g.length - (i + 1), by omega, ⟨i + 1, by omega, rfl, by simpa [g0, g5, g16, g17] using hA, by simp, rfl, rfl⟩⟩

/-- On a way from 0. -/
structure WayT (x : GraphV) (w : BytesV) (A0 : Nat → AV) (id N K k : Nat) (s : St) : Prop where
  ex : ∃ (n b : Nat) (p : Nat → Bool), k = K - n ∧ n ≤ w.l.length ∧ (∀ t ∈ [0, 1, 5, 7, 13, 16], s.A t = A0 t) ∧ s.A 17 = i64 b ∧ s.A 18 = i64 n ∧ s.N = N ∧ s.H id = some (.blk (marks x.g.length p)) ∧ Rch (Edge x.g) b ∧ ∀ a, p a = false → a ≠ b → Av (Edge x.g) a b

theorem tree_way {x : GraphV} (hx : x.Ok) (hin : InG x.g) {w : BytesV} (hw : w.Ok) {id : Nat} (hn : x.g.length ≤ 40) (hwl : w.l.length ≤ 200) (hT : TreeOk x.g L bs) (h0 : A 0 = x.av) (h1 : A 1 = w.av) (h5 : A 5 = treeV x.g.length L bs) (h16 : A 16 = .ms id 0 x.g.length 1) (h17 : A 17 = i64 0)
    (hH : H id = some (.blk (marks x.g.length fun _ => false)))
    (hk : ∀ A' H', (∀ t ∈ [0, 1, 5, 7, 13, 16], A' t = A t) → onward Try.prog fs Q .normal ⟨A', H', N⟩) :
    run Try.prog a_Tree_way fs Q ⟨A, H, N⟩ := by
  have hlen := x.len
  have hwlen : alen 1 w.av = some (w.l.length : Int) := by simp [BytesV.av]
  obtain ⟨K, hK⟩ : ∃ K, w.l.length + 1 = K := ⟨_, rfl⟩
  simp [a_Tree_way]
  refine run_loop (WayT x w A id N K) K ?_ ?_
  · exact ⟨0, 0, fun _ => false, by omega, by omega, by simp, by simp [h17], by simp, rfl, hH, .zero, fun a _ h => .zero h⟩
  · rintro k A1 H1 N1 ⟨n, b, p, rfl, hnl, hA, e17, e18, hNe, hid, hb, hp⟩
    simp only at hA e17 e18 hNe hid
    subst hNe
    have hA' := hA
    simp at hA'
    obtain ⟨g0, g1, g5, g7, g13, g16⟩ := hA'
    rw [h0] at g0
    rw [h1] at g1
    rw [h5] at g5
    rw [h16] at g16
    unfold a_bobbinlaw12_DomTreeb2
    obtain ⟨_, eg⟩ : ∃ c, a_Tree_gone = c := ⟨_, rfl⟩
    rw [eg]
    have hbg : b < x.g.length := hT.row.lt b ((hT.row.mem b).2 hb)
    have ix : aindex 1 (.ms id 0 x.g.length 1) (i64 b) = some (.mp id b) := by simp [aindex, hbg]
    have hst : astore H1 1 (.mp id b) (bl true) = some (H1.set id (.blk (marks x.g.length fun y => p y || y == b))) := by
      simp [astore, hid, marks_len, show b + 1 ≤ x.g.length by omega, ← marks_set]
    simp [g1, g16, e17, e18, hwlen, hnl, ix, hst, -alen, -astore]
    rw [← eg]
    refine tree_gone (x := x) (id := id) (b := b) (p := fun y => p y || y == b) hn hT hb ?_ ?_ ?_ ?_ ?_ ?_ ?_
    · simp [g0]
    · simp [g5]
    · simp [g16]
    · simp [e17]
    · simp
    · intro y hu
      cases hpy : p y with
      | true => simp
      | false =>
        by_cases hyb : y = b
        · simp [hyb]
        · exact absurd (hp y hpy hyb) ((hT.sol.dom b y hb).1 hu)
    intro A2 hA2
    simp at hA2
    by_cases hnw : n = w.l.length
    · subst hnw
      simp [hA2, g1, e18, hwlen, -alen]
      refine hk _ _ ?_
      simp [hA2, g0, g1, g5, g7, g13, g16, h0, h1, h5, h16, e18]
    · have hnlt : n < w.l.length := by omega
      have hr := hx.rows _ (List.getElem_mem hbg)
      have hq := row_at x hx hbg
      have hrl := row_alen _ hr
      by_cases hr0 : x.g[b].l.length = 0
      · simp [hA2, g0, g1, e17, e18, hwlen, show ¬ (n : Int) = w.l.length by omega, hq, hrl, hr0, -alen]
        refine hk _ _ ?_
        simp [hA2, g0, g1, g5, g7, g13, g16, h0, h1, h5, h16, e17, e18]
      · have hqw : aindex 1 w.av (i64 n) = some (.ip [u8 w.l[n]] 0) := by
          refine aindex_sl (by omega) ?_
          simp [hnlt]
        have hwm := hw.hb _ (List.getElem_mem hnlt)
        obtain ⟨m, hm⟩ : ∃ m : Nat, w.l[n] = (m : Int) := ⟨w.l[n].toNat, by omega⟩
        rw [hm] at hqw hwm
        have wm : IntKind.i64.wrap (m : Int) = (m : Int) := wrap_i64 (by omega) (by omega)
        have htm : (m : Int).tmod (x.g[b].l.length : Int) = ((m % x.g[b].l.length : Nat) : Int) := by
          rw [Int.tmod_eq_emod_of_nonneg (by omega)]; rfl
        have hjl : m % x.g[b].l.length < x.g[b].l.length := Nat.mod_lt _ (by omega)
        have hqc := cell_at _ hr hjl
        have hcin := hin _ (List.getElem_mem hbg) _ (List.getElem_mem hjl)
        obtain ⟨c, hc⟩ : ∃ c : Nat, x.g[b].l[m % x.g[b].l.length] = (c : Int) := ⟨(x.g[b].l[m % x.g[b].l.length]).toNat, by omega⟩
        rw [hc] at hqc
        have hE : Edge x.g b c := ⟨_, List.getElem?_eq_getElem hbg, by rw [← hc]; exact List.getElem_mem hjl⟩
        have hr0' : ¬ (x.g[b].l.length : Int) = 0 := by omega
        have hr1 : ¬ x.g[b].l = [] := fun h => hr0 (by rw [h]; rfl)
        have wr : IntKind.i64.wrap ((n : Int) + 1) = ((n + 1 : Nat) : Int) := by rw [wrap_i64 (by omega) (by omega)]; rfl
        push_cast at hqc htm
        simp [hA2, g0, g1, e17, e18, hwlen, show ¬ (n : Int) = w.l.length by omega, hq, hrl, hr0, hr1, hqw, wm, htm, hqc, wr, -alen]
        refine ⟨K - (n + 1), by omega, ⟨n + 1, c, _, rfl, by omega, by simp [hA2, g0, g1, g5, g7, g13, g16, h0, h1, h5, h16], by simp, by simp, rfl, by simp; rfl, .step hb hE, fun a ha hac => ?_⟩⟩
        simp at ha
        exact .step (hp a ha.1 ha.2) hE (Ne.symm hac)

end
end Go.Proofs.Ytmbbklddjkmcmaa
