/- dom: what the laws are made of: Ints, long, same. -/
import Derived.Test.YtmbbklddjkmcmaaAC
namespace Go.Proofs.Ytmbbklddjkmcmaa
set_option linter.unusedSimpArgs false
set_option linter.unusedVariables false
open Go Go.Fw Go.Dm

/-- The same numbers? -/
theorem p_Ints {H : AHeap} {a b : AV} {la lb : List Int} (ha : RdSl H 1 (intCells la) a) (hb : RdSl H 1 (intCells lb) b) (hl : la.length ≤ maxLen) (N : Nat) :
    ACall Try.prog 31 [a, b] H N (fun r H' N' => r = bl (decide (la = lb)) ∧ H' = H ∧ N' = N) := by
  have hm : maxLen = 9223372036854775807 := rfl
  refine acall mixed c_bobbinref12_Ints (by simp) ?_
  have hla := ha.len
  have hlb := hb.len
  rw [intCells_len] at hla hlb
  by_cases hll : la.length = lb.length
  · simp [a_bobbinref12_Ints, hla, hlb, hll, -alen]
    refine run_loop (fun m s => ∃ j, j ≤ la.length ∧ m = la.length - j ∧ s.A 0 = a ∧ s.A 1 = b ∧ s.A 5 = i64 j ∧ s.H = H ∧ s.N = N ∧ la.take j = lb.take j) la.length ?_ ?_
    · exact ⟨0, by omega, by omega, by simp, by simp, by simp, by simp, by simp, by simp⟩
    · rintro m A H1 N1 ⟨j, hj, rfl, h0, h1, h5, rfl, rfl, heq⟩
      simp only at h0 h1 h5
      by_cases hjl : j = la.length
      · subst hjl
        have : la = lb := by
          rw [List.take_length, hll, List.take_length] at heq; exact heq
        simp [a_bobbinref12_Intsb1, h0, h1, h5, hla, this, -alen]
      · have hlt : j < la.length := by omega
        have hlt2 : j < lb.length := by omega
        obtain ⟨p, hp, pp⟩ := ha.at (intCells_sz la) (intCells_at hlt)
        obtain ⟨q, hq, qq⟩ := hb.at (intCells_sz lb) (intCells_at hlt2)
        have lp := pp.one
        have lq := qq.one
        by_cases hv : la[j] = lb[j]
        · simp [a_bobbinref12_Intsb1, h0, h1, h5, hla, hlt, hp, hq, lp, lq, hv, -aload, -alen]
          refine ⟨la.length - (j + 1), by omega, j + 1, by omega, rfl, by rw [wrap_i64 (by omega) (by omega)]; rfl, ?_⟩
          rw [take_next hlt, take_next hlt2, heq, hv]
        · have : la ≠ lb := fun h => hv (by subst h; rfl)
          simp [a_bobbinref12_Intsb1, h0, h1, h5, hla, hlt, hp, hq, lp, lq, hv, this, -aload, -alen]
  · have : la ≠ lb := fun h => hll (by rw [h])
    simp [a_bobbinref12_Ints, hla, hlb, show ¬ ((la.length : Int) = lb.length) by omega, this, -alen]

/-- Not long. -/
structure Short (g : List RowV) : Prop where
  n : g.length ≤ 40
  row : ∀ r ∈ g, r.l.length ≤ 60
  e : edges g ≤ 200

theorem row_at (x : GraphV) (hx : x.Ok) {j : Nat} (hj : j < x.g.length) : aindex 1 x.av (i64 j) = some (.ip [x.g[j].av] 0) := by
  obtain ⟨q, hq, qq⟩ := (hx.rd noHeap).at (gCells_sz _) (gCells_at hj)
  rcases qq with rfl | ⟨id, off, ds, rfl, h1, _⟩
  · exact hq
  · cases h1
theorem row_alen (r : RowV) (hr : r.Ok) : alen 1 r.av = some (r.l.length : Int) := by
  have := (hr.rd noHeap).len
  rw [intCells_len] at this
  exact this
theorem cell_at (r : RowV) (hr : r.Ok) {j : Nat} (hj : j < r.l.length) : aindex 1 r.av (i64 j) = some (.ip [i64 r.l[j]] 0) := by
  obtain ⟨q, hq, qq⟩ := (hr.rd noHeap).at (intCells_sz _) (intCells_at hj)
  rcases qq with rfl | ⟨id, off, ds, rfl, h1, _⟩
  · exact hq
  · cases h1

structure LongI (x : GraphV) (H : AHeap) (N k : Nat) (s : St) : Prop where
  ex : ∃ j, j ≤ x.g.length ∧ k = x.g.length - j ∧ s.A 0 = x.av ∧ s.A 3 = i64 (edges (x.g.take j)) ∧ s.A 4 = i64 j ∧ s.H = H ∧ s.N = N ∧ (∀ r ∈ x.g.take j, r.l.length ≤ 60)

theorem p_long (x : GraphV) (hx : x.Ok) (H : AHeap) (N : Nat) :
    ACall Try.prog 14 [x.av] H N (fun r H' N' => H' = H ∧ N' = N ∧ ∃ b, r = bl b ∧ (b = false → Short x.g)) := by
  refine acall mixed c_bobbinlaw12_long (by simp) ?_
  have hl := x.len
  have hm : maxLen = 9223372036854775807 := rfl
  by_cases h40 : 40 < x.g.length
  · simp [a_bobbinlaw12_long, hl, show (40 : Int) < x.g.length by omega, -alen]
  · simp [a_bobbinlaw12_long, hl, show ¬ (40 : Int) < x.g.length by omega, -alen]
    refine run_loop (LongI x H N) x.g.length ?_ ?_
    · exact ⟨0, by omega, by omega, by simp, by simp [edges], by simp, rfl, rfl, by simp⟩
    · rintro k A H1 N1 ⟨j, hj, rfl, e0, e3, e4, hHe, hNe, hrows⟩
      simp only at e0 e3 e4 hHe hNe
      subst hHe hNe
      by_cases hjl : j = x.g.length
      · subst hjl
        rw [List.take_length] at hrows e3
        simp [a_bobbinlaw12_longb1, e0, e3, e4, hl, -alen]
        exact (Nat.lt_or_ge 200 (edges x.g)).elim (fun h => .inr (by omega)) (fun h => .inl ⟨by omega, by omega, hrows, h⟩)
      · have hlt : j < x.g.length := by omega
        have hq := row_at x hx hlt
        have hr := hx.rows _ (List.getElem_mem hlt)
        have hrl := row_alen _ hr
        by_cases h60 : 60 < x.g[j].l.length
        · simp [a_bobbinlaw12_longb1, e0, e3, e4, hl, hlt, hq, hrl, show (60 : Int) < x.g[j].l.length by omega, -alen]
        · have hex := edges_take hlt
          have hej : edges (x.g.take j) ≤ 60 * j := by
            have : ∀ (l : List RowV), (∀ r ∈ l, r.l.length ≤ 60) → edges l ≤ 60 * l.length := by
              intro l
              induction l with
              | nil => intro _; simp [edges]
              | cons r l ih =>
                intro h
                have h1 := h r (by simp)
                have h2 := ih fun r hr => h r (by simp [hr])
                simp only [edges, List.map_cons, List.sum_cons, List.length_cons] at h2 ⊢
                omega
            have := this _ hrows
            simp at this
            omega
          have wr : IntKind.i64.wrap ((j : Int) + 1) = ((j + 1 : Nat) : Int) := by rw [wrap_i64 (by omega) (by omega)]; rfl
          have wr2 : IntKind.i64.wrap ((edges (x.g.take j) : Int) + (x.g[j].l.length : Int)) = ((edges (x.g.take (j + 1)) : Nat) : Int) := by rw [wrap_i64 (by omega) (by omega), hex]; omega
          simp [a_bobbinlaw12_longb1, e0, e3, e4, hl, hlt, hq, hrl, show ¬ (60 : Int) < x.g[j].l.length by omega, wr, wr2, -alen]
          refine ⟨x.g.length - (j + 1), by omega, ⟨j + 1, by omega, rfl, by simp [e0], by simp, by simp, rfl, rfl, fun r hr => ?_⟩⟩
          rw [take_next hlt] at hr
          rcases List.mem_append.1 hr with h | h
          · exact hrows r h
          · rw [List.mem_singleton.1 h]; omega


theorem nodup_two {l : List Nat} {a b : Nat} (ha : a ∈ l) (hb : b ∈ l) (hab : a ≠ b) : 2 ≤ l.length := by
  match l, ha, hb with
  | [], ha, _ => simp at ha
  | [x], ha, hb => simp at ha hb; omega
  | _ :: _ :: _, _, _ => simp

section
variable {g : List RowV} {L : List Int} {bs : List Nat} {b : Nat}

/-- The next one above is the one that is left. -/
theorem nx_is (h : TreeOk g L bs) {b e : Nat} (hb : Rch (Edge g) b) (hb0 : b ≠ 0) (hex : ∀ d, d < g.length → d ≠ b → d ≠ e → Av (Edge g) d b) : nxOf L b = some e := by
  obtain ⟨d, hd⟩ := h.sol.all b hb hb0
  have hdn := h.sol.fit.dn b d hb hd
  have hdb : d ≠ b := fun h => by subst h; exact absurd hdn.2.1 (Nat.lt_irrefl _)
  by_cases hde : d = e
  · rw [hd, hde]
  · exact absurd (hex d (h.row.lt d ((h.row.mem d).2 hdn.1)) hdb hde) ((h.sol.dom b d hb).1 (.step hd (.refl _)))

theorem at_zero (h : TreeOk g L bs) : L[0]? = some (-1) := by
  have h0 := h.row.lt 0 ((h.row.mem 0).2 .zero)
  rcases h.nx h0 with ⟨h1, _⟩ | ⟨d, _, h2⟩
  · exact h1
  · rw [h.sol.fit.z] at h2; cases h2

theorem rchI_of (h : TreeOk g L bs) {b : Nat} (hb : Rch (Edge g) b) : rchI bs b = true := by
  simp [rchI, (h.row.mem b).2 hb]

end

/-- The first example. -/
def exA : GraphV := ⟨.exact, 1, [⟨.exact, 1, [1, 2]⟩, ⟨.exact, 1, [3]⟩, ⟨.exact, 1, [3]⟩, ⟨.nil, 0, []⟩]⟩
theorem exA_ok : exA.Ok := ⟨.inl rfl, by simp [exA, maxLen], fun r hr => by
  simp [exA] at hr
  rcases hr with rfl | rfl | rfl
  · exact ⟨.inl rfl, by simp [maxLen]⟩
  · exact ⟨.inl rfl, by simp [maxLen]⟩
  · exact ⟨.inr rfl, by simp [maxLen]⟩⟩
theorem exA01 : Edge exA.g 0 1 := ⟨_, rfl, by simp⟩
theorem exA02 : Edge exA.g 0 2 := ⟨_, rfl, by simp⟩
theorem exA13 : Edge exA.g 1 3 := ⟨_, rfl, by simp⟩
theorem exA23 : Edge exA.g 2 3 := ⟨_, rfl, by simp⟩

theorem exA_is {L : List Int} {bs : List Nat} (h : TreeOk exA.g L bs) : L = [-1, 0, 0, 0] := by
  have r1 : Rch (Edge exA.g) 1 := .step .zero exA01
  have r2 : Rch (Edge exA.g) 2 := .step .zero exA02
  have r3 : Rch (Edge exA.g) 3 := .step r1 exA13
  have n1 := nxOf_some (nx_is h (e := 0) r1 (by omega) fun d hd h1 h2 => .step (.zero h2) exA01 (Ne.symm h1))
  have n2 := nxOf_some (nx_is h (e := 0) r2 (by omega) fun d hd h1 h2 => .step (.zero h2) exA02 (Ne.symm h1))
  have n3 := nxOf_some (nx_is h (e := 0) r3 (by omega) fun d hd h1 h2 => by
    by_cases hd1 : d = 1
    · exact .step (.step (.zero h2) exA02 (by omega)) exA23 (Ne.symm h1)
    · exact .step (.step (.zero h2) exA01 (by omega)) exA13 (Ne.symm h1))
  have n0 := at_zero h
  have hl : L.length = 4 := h.ll
  match L, hl with
  | [a, b, c, d], _ =>
    simp at n0 n1 n2 n3
    simp [n0, n1, n2, n3]

theorem exA_row {L : List Int} {bs : List Nat} (h : TreeOk exA.g L bs) : orderL L bs = [0, 1, 2, 3] := by
  have r1 : Rch (Edge exA.g) 1 := .step .zero exA01
  have h2 := nodup_two ((h.row.mem 0).2 .zero) ((h.row.mem 1).2 r1) (by omega)
  obtain ⟨m, hm⟩ : ∃ m, bs.length = m + 2 := ⟨bs.length - 2, by omega⟩
  have hL := exA_is h
  subst hL
  have k0 : kidsL [-1, 0, 0, 0] 0 = [1, 2, 3] := by decide
  have k1 : kidsL [-1, 0, 0, 0] 1 = [] := by decide
  have k2 : kidsL [-1, 0, 0, 0] 2 = [] := by decide
  have k3 : kidsL [-1, 0, 0, 0] 3 = [] := by decide
  unfold orderL
  rw [hm]
  simp [pre, k0, k1, k2, k3]

theorem p_awake : PCall Try.prog 15 [] (bl true) := by
  refine PCall.of fun N => acallF mixed c_bobbinlaw12_awake (by simp) fun hF => ?_
  have hOf := p_Of exA exA_ok (by simp [exA, edges])
  have hmay : mayG exA.g = true := by decide
  have hav : exA.av = .sl .exact 1 [[.sl .exact 1 [[i64 1], [i64 2]]], [.sl .exact 1 [[i64 3]]], [.sl .exact 1 [[i64 3]]], [.sl .nil 0 []]] := rfl
  rw [hav] at hOf
  simp only [hmay, if_true] at hOf
  simp [a_bobbinlaw12_awake]
  refine hOf.acall ?_
  rintro r ⟨L, bs, hT, rfl⟩
  have hLe := exA_is hT
  have hord := exA_row hT
  have r1 : Rch (Edge exA.g) 1 := .step .zero exA01
  have r3 : Rch (Edge exA.g) 3 := .step r1 exA13
  have q0 := rchI_of hT .zero
  have q1 := rchI_of hT r1
  have q3 := rchI_of hT r3
  simp at q0 q1 q3
  have hn3 : nxI L bs 3 = 0 := by simp [nxI, q3, hLe]
  have hk0 : natI (kidsI L bs 0) = [1, 2, 3] := by
    simp only [kidsI, q0, if_true, hLe]
    decide
  have ha03 : abI L bs 0 3 = true := by
    simp [abI, q0, q3]
    exact .step (d := 0) (by rw [hLe]; rfl) (.refl _)
  have ha13 : abI L bs 1 3 = false := by
    simp [abI, q1, q3]
    intro hu
    obtain ⟨d, h1, h2⟩ := hu.inv (by omega)
    have : d = 0 := by rw [hLe] at h1; exact (Option.some.inj h1).symm
    subst this
    have := h2.zero (by rw [hLe]; rfl)
    omega
  simp
  refine (p_Next hT 3).acall ?_
  rw [hn3]
  simp
  refine (a_Kids hT (by simp [exA]) 0 _ N).monoF ?_
  rintro r1 H1 N1 ⟨hN1, _, hB1⟩ hF1 _
  rw [hk0] at hB1
  simp
  refine (p_Ints hB1.rd (RdSl.sl .exact : RdSl H1 1 (intCells [1, 2, 3]) (.sl .exact 1 (intCells [1, 2, 3]))) (by simp [maxLen]) N1).mono ?_
  rintro r2 H2 N2 ⟨rfl, rfl, rfl⟩
  simp
  refine (a_Order hT (by simp [exA]) _ _).monoF ?_
  rintro r3 H3 N3 ⟨hN3, _, hB3⟩ hF3 _
  rw [hord] at hB3
  simp
  refine (p_Ints hB3.rd (RdSl.sl .exact : RdSl H3 1 (intCells [0, 1, 2, 3]) (.sl .exact 1 (intCells [0, 1, 2, 3]))) (by simp [maxLen, natI]) N3).mono ?_
  rintro r4 H4 N4 ⟨rfl, rfl, rfl⟩
  simp [natI]
  refine (p_Above hT 0 3).acall ?_
  rw [ha03]
  simp
  refine (p_Above hT 1 3).acall ?_
  rw [ha13]
  simp
  exact .free rfl

end Go.Proofs.Ytmbbklddjkmcmaa
