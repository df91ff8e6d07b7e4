/- dom: the law DomKids. -/
import Derived.Test.YtmbbklddjkmcmaaB2
namespace Go.Proofs.Ytmbbklddjkmcmaa
set_option linter.unusedSimpArgs false
set_option linter.unusedVariables false
open Go Go.Fw Go.Dm

theorem cnt_split {α : Type} {p q r : α → Bool} : ∀ (l : List α), (∀ x ∈ l, r x = (p x || q x)) → (∀ x ∈ l, ¬ (p x = true ∧ q x = true)) → (l.filter r).length = (l.filter p).length + (l.filter q).length
  | [], _, _ => rfl
  | x :: l, h1, h2 => by
    have ih := cnt_split l (fun y hy => h1 y (by simp [hy])) (fun y hy => h2 y (by simp [hy]))
    have e1 := h1 x (by simp)
    have e2 := h2 x (by simp)
    cases hp : p x <;> cases hq : q x <;> simp [hp, hq] at e1 e2 <;> simp [List.filter_cons, e1, hp, hq, ih] <;> omega

section
variable {g : List RowV} {L : List Int} {bs : List Nat}

/-- How many blocks have a next one above that is less than j. -/
def belowN (L : List Int) (j : Nat) : Nat := ((List.range L.length).filter fun c => decide (0 ≤ L.getD c (-1) ∧ L.getD c (-1) < j)).length
/-- How many of the first j are reached. -/
def rchN (bs : List Nat) (j : Nat) : Nat := ((List.range j).filter fun c : Nat => rchI bs (c : Int)).length

theorem kid_len {b : Nat} : (kidsJ L L.length b).length = belowN L (b + 1) - belowN L b := by
  have : belowN L (b + 1) = belowN L b + (kidsJ L L.length b).length := by
    unfold belowN kidsJ
    refine cnt_split _ (fun c hc => ?_) (fun c hc => ?_)
    · have hcl : c < L.length := by simpa using hc
      simp only [List.getD, List.getElem?_eq_getElem hcl, Option.getD_some, Option.some.injEq]
      rw [Bool.eq_iff_iff]
      simp only [Bool.or_eq_true, decide_eq_true_eq]
      omega
    · have hcl : c < L.length := by simpa using hc
      simp only [List.getD, List.getElem?_eq_getElem hcl, Option.getD_some, Option.some.injEq, decide_eq_true_eq]
      omega
  omega
theorem below_mono {b : Nat} : belowN L b ≤ belowN L (b + 1) := by
  unfold belowN
  rw [← List.countP_eq_length_filter, ← List.countP_eq_length_filter]
  refine List.countP_mono_left fun c hc h => ?_
  simp only [decide_eq_true_eq] at h ⊢
  omega
theorem below_zero : belowN L 0 = 0 := by
  unfold belowN
  rw [List.length_eq_zero_iff, List.filter_eq_nil_iff]
  intro c hc
  simp only [decide_eq_true_eq]
  omega
theorem below_le {j : Nat} : belowN L j ≤ L.length := by
  unfold belowN
  have := List.length_filter_le (fun c => decide (0 ≤ L.getD c (-1) ∧ L.getD c (-1) < (j : Int))) (List.range L.length)
  simpa using this
theorem rchN_le {j : Nat} : rchN bs j ≤ j := by
  unfold rchN
  have := List.length_filter_le (fun c : Nat => rchI bs c) (List.range j)
  simpa using this
theorem rchN_next {j : Nat} : rchN bs (j + 1) = rchN bs j + (if rchI bs j = true then 1 else 0) := by
  unfold rchN
  rw [List.range_succ, List.filter_append, List.length_append]
  congr 1
  cases h : rchI bs j <;> simp [h]

theorem kidsI_eq (h : TreeOk g L bs) {b : Nat} : kidsI L bs b = kidsJ L L.length b := by
  unfold kidsI
  split
  · rfl
  · rename_i hr
    symm
    unfold kidsJ
    rw [List.filter_eq_nil_iff]
    intro c hc
    simp only [decide_eq_true_eq]
    intro hL
    apply hr
    have hn : nxOf L c = some b := by unfold nxOf; rw [hL]; simp
    have hrc := (kids_ok h).rch hn
    exact rchI_of h (h.sol.fit.dn c b hrc hn).1

/-- All that are reached, but 0, have a next one above. -/
theorem all_below (h : TreeOk g L bs) : belowN L g.length + 1 = rchN bs g.length := by
  have h0 : 0 < g.length := h.row.lt 0 ((h.row.mem 0).2 .zero)
  have hz : ((List.range g.length).filter fun c => decide (c = 0)).length = 1 := by
    obtain ⟨m, hm⟩ : ∃ m, g.length = m + 1 := ⟨g.length - 1, by omega⟩
    rw [hm, List.range_succ_eq_map, List.filter_cons]
    simp
  have := cnt_split (p := fun c => decide (0 ≤ L.getD c (-1) ∧ L.getD c (-1) < (g.length : Int))) (q := fun c => decide (c = 0)) (r := fun c : Nat => rchI bs c) (List.range g.length) (fun c hc => ?_) (fun c hc => ?_)
  · unfold belowN rchN
    rw [h.ll, this, hz]
  · have hcl : c < g.length := by simpa using hc
    rw [Bool.eq_iff_iff, rch_iff h]
    simp only [Bool.or_eq_true, decide_eq_true_eq, Int.toNat_natCast]
    rcases h.nx hcl with ⟨h1, h2⟩ | ⟨d, h1, h2⟩
    · simp only [List.getD, h1, Option.getD_some]
      constructor
      · rintro ⟨_, hr⟩
        by_cases hc0 : c = 0
        · exact .inr hc0
        · obtain ⟨e, he⟩ := h.sol.all c hr hc0
          rw [h2] at he; cases he
      · rintro (h3 | rfl)
        · omega
        · exact ⟨by omega, .zero⟩
    · simp only [List.getD, h1, Option.getD_some]
      have hrc := (kids_ok h).rch h2
      have hdl := h.row.lt d ((h.row.mem d).2 (h.sol.fit.dn c d hrc h2).1)
      exact ⟨fun _ => .inl ⟨by omega, by omega⟩, fun _ => ⟨by omega, hrc⟩⟩
  · simp only [decide_eq_true_eq]
    rintro ⟨h1, rfl⟩
    have := at_zero h
    simp only [List.getD, this, Option.getD_some] at h1
    omega

theorem kids_rise (h : TreeOk g L bs) {b : Nat} {i : Nat} {c d : Nat} (hi : (kidsI L bs b)[i]? = some c) (hj : (kidsI L bs b)[i + 1]? = some d) : c < d := by
  rw [kidsI_eq h] at hi hj
  have hp : (kidsJ L L.length b).Pairwise (· < ·) := List.pairwise_lt_range.filter _
  have hil := (List.getElem?_eq_some_iff.1 hi)
  have hjl := (List.getElem?_eq_some_iff.1 hj)
  have := List.pairwise_iff_getElem.1 hp i (i + 1) hil.1 hjl.1 (by omega)
  rw [hil.2, hjl.2] at this
  exact this

structure KdI1 (A0 : Nat → AV) (l : List Nat) (H : AHeap) (N k : Nat) (s : St) : Prop where
  ex : ∃ i, i ≤ l.length ∧ k = l.length - i ∧ (∀ t ∈ [0, 3, 5, 6, 7, 8], s.A t = A0 t) ∧ s.A 9 = i64 i ∧ s.H = H ∧ s.N = N

theorem kids_in {A : Nat → AV} {H : AHeap} {N : Nat} {fs : List Fr} {Q : Post} {v : AV} {b : Nat} (hT : TreeOk g L bs) (hn : g.length ≤ 40) (h3 : A 3 = treeV g.length L bs) (h7 : A 7 = i64 b) (h8 : A 8 = v)
    (hrd : RdSl H 1 (intCells (natI (kidsI L bs b))) v) (hk : ∀ A', (∀ t ∈ [0, 3, 5, 6, 7, 8], A' t = A t) → onward Try.prog fs Q .normal ⟨A', H, N⟩) : run Try.prog a_DomKids_in fs Q ⟨A, H, N⟩ := by
  have hlen := hrd.len
  rw [intCells_len, natI_len] at hlen
  have hkl : (kidsI L bs b).length ≤ 40 := by
    rw [kidsI_eq hT]
    have := kidsJ_len (L := L) (j := L.length) (b := b)
    rw [hT.ll] at this ⊢
    omega
  simp [a_DomKids_in]
  refine run_loop (KdI1 A (kidsI L bs b) H N) (kidsI L bs b).length ?_ ?_
  · exact ⟨0, by omega, by omega, by simp, by simp, rfl, rfl⟩
  · rintro k A1 H1 N1 ⟨i, hi, rfl, hA, h9, hHe, hNe⟩
    simp only at hA h9 hHe hNe
    subst hHe hNe
    have hA' := hA
    simp at hA'
    obtain ⟨g0, g3, g5, g6, g7, g8⟩ := hA'
    rw [h3] at g3
    rw [h7] at g7
    rw [h8] at g8
    by_cases hil : i = (kidsI L bs b).length
    · subst hil
      simp [a_bobbinlaw12_DomKidsb1, g8, h9, hlen, -alen]
      exact hk _ (by simpa [g8] using hA)
    · have hlt : i < (kidsI L bs b).length := by omega
      obtain ⟨c, hc⟩ : ∃ c, (kidsI L bs b)[i]? = some c := ⟨_, List.getElem?_eq_getElem hlt⟩
      have hcm := List.mem_of_getElem? hc
      rw [kidsI_eq hT] at hcm
      have hcn : nxOf L c = some b := ((kids_ok hT).mem b c).1 hcm
      obtain ⟨hrc, _, hbg⟩ := kid_of hT hcm
      have hrb := (hT.sol.fit.dn c b hrc hcn).1
      have qc := rchI_of hT hrc
      have qb := rchI_of hT hrb
      have hnx : nxI L bs c = b := by
        simp [nxI, qc, List.getD, nxOf_some hcn]
      have cellOf : ∀ {m d : Nat}, (kidsI L bs b)[m]? = some d → ∃ p, aindex 1 v (i64 m) = some p ∧ aload H1 false 1 p = some (i64 d) := fun {m d} hd => by
        have hcell : (intCells (natI (kidsI L bs b)))[m]? = some [i64 d] := by simp [intCells, natI, hd]
        obtain ⟨p, hp, hpt⟩ := hrd.at (intCells_sz _) hcell
        exact ⟨p, hp, hpt.one⟩
      obtain ⟨p, hp, hpl⟩ := cellOf hc
      have wr : IntKind.i64.wrap ((i : Int) + 1) = ((i + 1 : Nat) : Int) := by rw [wrap_i64 (by omega) (by omega)]; rfl
      by_cases hi0 : i = 0
      · subst hi0
        have hp0 : aindex 1 v (i64 0) = some p := hp
        simp [a_bobbinlaw12_DomKidsb1, g3, g7, g8, h9, hlen, hlt, hp0, hpl, -alen, -aload]
        refine (p_Next hT _).acall ?_
        simp [hnx, g3, g7, g8, h9, hp0, hpl, -alen, -aload]
        refine (p_Reached hT _).acall ?_
        simp [qc, g3, g7]
        refine (p_Reached hT _).acall ?_
        simp [qb, h9]
        exact ⟨(kidsI L bs b).length - 1, by omega, ⟨1, by omega, by omega, by simpa [g3, g7, g8] using hA, by simp [show IntKind.i64.wrap 1 = 1 by decide], rfl, rfl⟩⟩
      · obtain ⟨m, rfl⟩ : ∃ m, i = m + 1 := ⟨i - 1, by omega⟩
        obtain ⟨d, hd⟩ : ∃ d, (kidsI L bs b)[m]? = some d := ⟨_, List.getElem?_eq_getElem (by omega)⟩
        have hdc := kids_rise hT hd hc
        obtain ⟨q, hq, hql⟩ := cellOf hd
        have w1 : IntKind.i64.wrap (((m + 1 : Nat) : Int) - 1) = (m : Int) := by rw [wrap_i64 (by omega) (by omega)]; omega
        have hp' : aindex 1 v (i64 ((m : Int) + 1)) = some p := by simpa using hp
        have h9' : A1 9 = i64 ((m : Int) + 1) := by simpa using h9
        have wr' : IntKind.i64.wrap ((m : Int) + 1 + 1) = ((m + 1 + 1 : Nat) : Int) := by simpa using wr
        have wm : IntKind.i64.wrap (m : Int) = (m : Int) := by rw [wrap_i64 (by omega) (by omega)]
        have w1' : IntKind.i64.wrap ((m : Int) + 1 - 1) = (m : Int) := by simpa using w1
        simp [a_bobbinlaw12_DomKidsb1, g3, g7, g8, h9', hlen, show (m : Int) + 1 < (kidsI L bs b).length by omega, hp', hpl, -alen, -aload]
        refine (p_Next hT _).acall ?_
        simp [hnx, g3, g7, g8, h9', hp', hpl, -alen, -aload]
        refine (p_Reached hT _).acall ?_
        simp [qc, g3, g7]
        refine (p_Reached hT _).acall ?_
        simp [qb, show (0 : Int) < (m : Int) + 1 by omega, hp', hpl, w1', wm, hq, hql, show ¬ (c : Int) ≤ d by omega, g8, h9', wr', -alen, -aload]
        exact ⟨(kidsI L bs b).length - (m + 1 + 1), by omega, ⟨m + 1 + 1, by omega, by omega, by simpa [g3, g7, g8] using hA, by simp, rfl, rfl⟩⟩

structure KdI2 (x : GraphV) (L : List Int) (bs : List Nat) (tv : AV) (k : Nat) (s : St) : Prop where
  ex : ∃ j, j ≤ x.g.length ∧ k = x.g.length - j ∧ s.A 0 = x.av ∧ s.A 3 = tv ∧ s.A 5 = i64 (belowN L j) ∧ s.A 6 = i64 (rchN bs j) ∧ s.A 7 = i64 j

theorem p_DomKids (x : GraphV) (hx : x.Ok) (H : AHeap) (N : Nat) : ACall Try.prog 7 [x.av] H N (fun r _ _ => r = bl true) := by
  refine acall mixed c_bobbinlaw12_DomKids (by simp) ?_
  have hl := x.len
  simp [a_bobbinlaw12_DomKids]
  refine (p_long x hx _ _).mono ?_
  rintro r H1 N1 ⟨rfl, rfl, lb, rfl, hsh⟩
  cases lb with
  | true =>
    simp
    exact p_awake.acall rfl
  | false =>
    have hs := hsh rfl
    simp
    refine p_awake.acall ?_
    simp
    refine (p_Of x hx (by have := hs.e; omega)).acall ?_
    intro r hr
    by_cases hm : mayG x.g = true
    · rw [if_pos hm] at hr
      obtain ⟨L, bs, hT, rfl⟩ := hr
      have hn := hs.n
      have hll := hT.ll
      simp
      refine run_loop (KdI2 x L bs (treeV x.g.length L bs)) x.g.length ?_ ?_
      · exact ⟨0, by omega, by omega, by simp, by simp, by simp [below_zero], by simp [rchN], by simp⟩
      · rintro k A H2 N2 ⟨j, hj, rfl, e0, e3, e5, e6, e7⟩
        simp only at e0 e3 e5 e6 e7
        by_cases hjl : j = x.g.length
        · subst hjl
          have hall := all_below hT
          have hle := below_le (L := L) (j := x.g.length)
          have hz := at_zero hT
          have q0 := rchI_of hT .zero
          have hn0 : nxI L bs 0 = -1 := by
            simp at q0
            simp [nxI, q0, List.getD, hz]
          have w1 : IntKind.i64.wrap ((rchN bs x.g.length : Int) - 1) = ((belowN L x.g.length : Nat) : Int) := by rw [wrap_i64 (by omega) (by omega)]; omega
          simp [a_bobbinlaw12_DomKidsb2, e0, e3, e5, e6, e7, hl, w1, -alen]
          refine (p_Next hT 0).acall ?_
          rw [hn0]
          simp [e3]
          refine (p_Reached hT 0).acall ?_
          simp at q0
          rw [q0]
          simp
        · have hlt : j < x.g.length := by omega
          have hrl := rchN_le (bs := bs) (j := j)
          have hrn := rchN_next (bs := bs) (j := j)
          have hbl := below_le (L := L) (j := j + 1)
          have hbm := below_mono (L := L) (b := j)
          have hkl := kid_len (L := L) (b := j)
          have wr : IntKind.i64.wrap ((j : Int) + 1) = ((j + 1 : Nat) : Int) := by rw [wrap_i64 (by omega) (by omega)]; rfl
          have w5 : IntKind.i64.wrap ((belowN L j : Int) + ((kidsI L bs j).length : Int)) = ((belowN L (j + 1) : Nat) : Int) := by
            rw [kidsI_eq hT, hkl, wrap_i64 (by omega) (by omega)]; omega
          unfold a_bobbinlaw12_DomKidsb2
          obtain ⟨_, ek⟩ : ∃ c, a_DomKids_in = c := ⟨_, rfl⟩
          rw [ek]
          have go : ∀ (r : AV) (H3 : AHeap) (N3 : Nat) (A2 : Nat → AV) (fs : List Fr) (Q : Post), RdSl H3 1 (intCells (natI (kidsI L bs j))) r → A2 3 = treeV x.g.length L bs → A2 7 = i64 j → A2 8 = r → (∀ A', (∀ t ∈ [0, 3, 5, 6, 7, 8], A' t = A2 t) → onward Try.prog fs Q .normal ⟨A', H3, N3⟩) → run Try.prog a_DomKids_in fs Q ⟨A2, H3, N3⟩ :=
            fun r H3 N3 A2 fs Q hrd k3 k7 k8 hk => kids_in hT hn k3 k7 k8 hrd hk
          rw [ek] at go
          by_cases hrj : rchI bs j = true
          · have w6 : IntKind.i64.wrap ((rchN bs j : Int) + 1) = ((rchN bs (j + 1) : Nat) : Int) := by
              rw [if_pos hrj] at hrn
              rw [hrn, wrap_i64 (by omega) (by omega)]; rfl
            simp [e0, e3, e6, e7, hl, hlt, -alen]
            refine (p_Reached hT j).acall ?_
            simp [hrj, e3, e6, e7, w6]
            refine (a_Kids hT (by omega) j _ _).mono ?_
            rintro r H3 N3 ⟨_, _, hB⟩
            have hrlen := hB.rd.len
            rw [intCells_len, natI_len] at hrlen
            simp
            refine go r H3 N3 _ _ _ hB.rd ?_ ?_ ?_ ?_
            · simp [e3]
            · simp [e7]
            · simp
            intro A4 h4
            simp at h4
            simp [h4, e0, e3, e5, e7, hrlen, w5, wr, -alen]
            exact ⟨x.g.length - (j + 1), by omega, ⟨j + 1, by omega, rfl, by simp [h4, e0], by simp [h4, e3], by simp, by simp [h4], by simp⟩⟩
          · have hrn' : rchN bs (j + 1) = rchN bs j := by rw [hrn, if_neg hrj]; omega
            simp [e0, e3, e6, e7, hl, hlt, -alen]
            refine (p_Reached hT j).acall ?_
            simp [hrj, e3, e6, e7]
            refine (a_Kids hT (by omega) j _ _).mono ?_
            rintro r H3 N3 ⟨_, _, hB⟩
            have hrlen := hB.rd.len
            rw [intCells_len, natI_len] at hrlen
            simp
            refine go r H3 N3 _ _ _ hB.rd ?_ ?_ ?_ ?_
            · simp [e3]
            · simp [e7]
            · simp
            intro A4 h4
            simp at h4
            simp [h4, e0, e3, e5, e7, hrlen, w5, wr, -alen]
            exact ⟨x.g.length - (j + 1), by omega, ⟨j + 1, by omega, rfl, by simp [h4, e0], by simp [h4, e3], by simp, by simp [h4, e6, hrn'], by simp⟩⟩
    · rw [if_neg hm] at hr
      subst hr
      simp

end
end Go.Proofs.Ytmbbklddjkmcmaa
