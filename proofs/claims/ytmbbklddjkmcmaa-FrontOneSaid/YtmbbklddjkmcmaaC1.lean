/- dom: the reference: which blocks one comes to. -/
import Derived.Test.YtmbbklddjkmcmaaB4
namespace Go.Proofs.Ytmbbklddjkmcmaa
set_option linter.unusedSimpArgs false
set_option linter.unusedVariables false
open Go Go.Fw Go.Dm

/-- b is reached by blocks of one kind. -/
inductive RchP (E : Nat → Nat → Prop) (ok : Nat → Prop) : Nat → Prop
  | zero : ok 0 → RchP E ok 0
  | step {a b : Nat} : RchP E ok a → E a b → ok b → RchP E ok b

theorem rchP_av {E : Nat → Nat → Prop} {c b : Nat} : RchP E (fun x => (x : Int) ≠ (c : Int)) b ↔ Av E c b := by
  constructor
  · intro h
    induction h with
    | zero h => exact .zero (fun h0 => h (by omega))
    | step _ h2 h3 ih => exact .step ih h2 (fun h0 => h3 (by rw [h0]))
  · intro h
    induction h with
    | zero h => exact .zero (fun h0 => h (by omega))
    | step _ h2 h3 ih => exact .step ih h2 (fun h0 => h3 (by omega))
theorem rchP_all {E : Nat → Nat → Prop} {b : Nat} : RchP E (fun x => (x : Int) ≠ -1) b ↔ Rch E b := by
  constructor
  · intro h
    induction h with
    | zero h => exact .zero
    | step _ h2 h3 ih => exact .step ih h2
  · intro h
    induction h with
    | zero => exact .zero (by omega)
    | step _ h2 ih => exact .step ih h2 (by omega)

/-- A row of numbers that one takes from the front of, and puts behind. -/
def QAt (H : AHeap) (v : AV) (q : List Nat) : Prop := ∃ id off cs, v = .ms id off q.length 1 ∧ H id = some (.blk cs) ∧ off + q.length ≤ cs.length ∧ (cs.drop off).take q.length = (natI q).map i64

section
variable {H : AHeap} {N : Nat} {v : AV} {q : List Nat}

theorem QAt.len (h : QAt H v q) : alen 1 v = some (q.length : Int) := by obtain ⟨id, off, cs, rfl, _⟩ := h; rfl
theorem QAt.first {b : Nat} (h : QAt H v (b :: q)) : ∃ p, aindex 1 v (i64 0) = some p ∧ aload H false 1 p = some (i64 b) := by
  obtain ⟨id, off, cs, rfl, hH, hl, ht⟩ := h
  have hlt : 0 < q.length + 1 := by omega
  refine ⟨.mp id (off + 0 * 1), by simp [aindex], ?_⟩
  have h0 := congrArg (·[0]?) ht
  simp [natI] at h0
  simp at hl
  simp [aload, apart, hH]
  exact h0
theorem QAt.rest {b : Nat} (h : QAt H v (b :: q)) : ∃ v', aslice 1 v (some (i64 1)) none none = some v' ∧ QAt H v' q := by
  obtain ⟨id, off, cs, rfl, hH, hl, ht⟩ := h
  simp at hl
  refine ⟨.ms id (off + 1) q.length 1, ?_, id, off + 1, cs, rfl, hH, by omega, ?_⟩
  · simp [aslice, bnd]
    omega
  · have h1 := congrArg (List.drop 1) ht
    rw [List.drop_take, List.drop_drop] at h1
    simpa [natI] using h1
theorem QAt.push (h : QAt H v q) (hF : Fresh H N) (hl : q.length ≤ 1000000) (c : Nat) : ∃ H' id off, v = .ms id off q.length 1 ∧ aappend false 1 8 H N v (.sl .exact 1 [[i64 c]]) = some (.ms N 0 (q.length + 1) 1, H', N + 1) ∧ QAt H' (.ms N 0 (q.length + 1) 1) (q ++ [c]) ∧ Fresh H' (N + 1) ∧ (∀ j, j ≠ N → j ≠ id → H' j = H j) := by
  obtain ⟨id, off, cs, rfl, hH, hl2, ht⟩ := h
  have hid := hF.lt hH
  obtain ⟨ds, hds⟩ : ∃ ds, ds = (cs.drop off).take q.length ++ [i64 c] := ⟨_, rfl⟩
  refine ⟨(H.del id).set N (.blk ds), id, off, rfl, ?_, ⟨N, 0, ds, by simp, by simp [AHeap.set], ?_, ?_⟩, ?_, ?_⟩
  · have hc : off + q.length ≤ cs.length ∧ (q.length + 1) * 8 ≤ lim ∧ q.length + 1 ≤ 9223372036854775807 := ⟨by omega, by unfold lim; omega, by omega⟩
    simp [aappend, hH, asrc, hc, hds]
  · rw [hds]; simp; omega
  · rw [hds]
    simp [natI] at ht ⊢
    rw [List.take_of_length_le (by simp; omega), ht]
  · intro j hj
    simp only [AHeap.set, AHeap.del]
    rw [if_neg (by omega)]
    split
    · rfl
    · exact hF j (by omega)
  · intro j h1 h2
    simp only [AHeap.set, AHeap.del]
    rw [if_neg h1, if_neg h2]
end

/-- What is known while one comes from block to block. -/
structure ComeS (E : Nat → Nat → Prop) (ok : Nat → Prop) (p : Nat → Bool) (q : List Nat) : Prop where
  snd : ∀ b, p b = true → RchP E ok b
  qm : ∀ b ∈ q, p b = true
  cl : ∀ a b, p a = true → a ∉ q → E a b → ok b → p b = true
  z : p 0 = true


/-- How many blocks are not marked. -/
def unm (n : Nat) (p : Nat → Bool) : Nat := ((List.range n).filter fun b => !p b).length
theorem unm_le {n : Nat} {p : Nat → Bool} : unm n p ≤ n := by
  have := List.length_filter_le (fun b => !p b) (List.range n)
  simpa [unm] using this
theorem unm_set {n : Nat} {p : Nat → Bool} {c : Nat} (hc : c < n) (hp : p c = false) : unm n (fun y => p y || y == c) + 1 = unm n p := by
  have h1 : ((List.range n).filter fun b => decide (b = c)).length = 1 := by
    have hnd : ((List.range n).filter fun b => decide (b = c)).Nodup := List.nodup_range.filter _
    have h2 := List.Nodup.length_le_of_subset (l₂ := [c]) hnd (fun y hy => by simp at hy; simp [hy.2])
    have h3 : c ∈ (List.range n).filter fun b => decide (b = c) := by simp [hc]
    have := List.length_pos_of_mem h3
    simp only [List.length_singleton] at h2
    omega
  have := cnt_split (p := fun b => !(p b || b == c)) (q := fun b => decide (b = c)) (r := fun b => !p b) (List.range n) (fun b _ => ?_) (fun b _ => ?_)
  · have e1 : unm n (fun y => p y || y == c) = ((List.range n).filter fun b => !(p b || b == c)).length := rfl
    have e2 : unm n p = ((List.range n).filter fun b => !p b).length := rfl
    omega
  · by_cases hb : b = c
    · subst hb; simp [hp]
    · simp [hb]
  · simp

theorem rchP_none {E : Nat → Nat → Prop} {ok : Nat → Prop} (h : ¬ ok 0) {b : Nat} : ¬ RchP E ok b := fun hb => by
  induction hb with
  | zero h0 => exact h h0
  | step _ _ _ ih => exact ih

section
variable {x : GraphV} {c : Int} {A : Nat → AV} {H : AHeap} {N : Nat} {fs : List Fr} {Q : Post}

/-- What both loops keep. -/
structure CoK (x : GraphV) (c : Int) (H0 : AHeap) (N0 : Nat) (p : Nat → Bool) (q : List Nat) (s : St) : Prop where
  h0 : s.A 0 = x.av
  h1 : s.A 1 = i64 c
  h5 : s.A 5 = .ms N0 0 x.g.length 1
  h6 : QAt s.H (s.A 6) q
  f : Fresh s.H s.N
  n : N0 + 2 ≤ s.N
  m : s.H N0 = some (.blk (marks x.g.length p))
  id : ∀ i o l, s.A 6 = .ms i o l 1 → N0 < i
  old : ∀ j, j < N0 → s.H j = H0 j

/-- Not very long. -/
structure Mid (g : List RowV) : Prop where
  n : g.length ≤ 60
  row : ∀ r ∈ g, r.l.length ≤ 400
theorem Short.mid {g : List RowV} (h : Short g) : Mid g := ⟨by have := h.n; omega, fun r hr => by have := h.row r hr; omega⟩

structure CoI (x : GraphV) (c : Int) (H0 : AHeap) (N0 k : Nat) (s : St) : Prop where
  ex : ∃ p q, k = 2 * unm x.g.length p + q.length ∧ 2 * unm x.g.length p + q.length ≤ 200 ∧ CoK x c H0 N0 p q s ∧ ComeS (Edge x.g) (fun y => (y : Int) ≠ c) p q

structure CoJ (x : GraphV) (c : Int) (H0 : AHeap) (N0 : Nat) (b K : Nat) (l : List Int) (k : Nat) (s : St) : Prop where
  ex : ∃ (p : Nat → Bool) (q : List Nat) (j : Nat), k = l.length - j ∧ j ≤ l.length ∧ s.A 7 = i64 b ∧ s.A 8 = i64 j ∧ 2 * unm x.g.length p + q.length ≤ K ∧ CoK x c H0 N0 p q s ∧ p b = true ∧ (∀ d, p d = true → RchP (Edge x.g) (fun y => (y : Int) ≠ c) d) ∧ (∀ d ∈ q, p d = true) ∧ p 0 = true ∧
    (∀ a d, p a = true → a ∉ q → a ≠ b → Edge x.g a d → (d : Int) ≠ c → p d = true) ∧ ∀ (i : Nat) (d : Nat), i < j → l[i]? = some (d : Int) → (d : Int) ≠ c → p d = true

theorem come_in (hx : x.Ok) (hin : InG x.g) (hn : x.g.length ≤ 60) {H0 : AHeap} {N0 b K : Nat} {p : Nat → Bool} {q : List Nat} (hb : b < x.g.length) (hrl : x.g[b].l.length ≤ 400) (hK : K ≤ 200) (hle : 2 * unm x.g.length p + q.length ≤ K) (hC : CoK x c H0 N0 p q ⟨A, H, N⟩) (h7 : A 7 = i64 b) (h8 : A 8 = i64 0)
    (hpb : p b = true) (hsn : ∀ d, p d = true → RchP (Edge x.g) (fun y => (y : Int) ≠ c) d) (hqm : ∀ d ∈ q, p d = true) (hz : p 0 = true) (hcl : ∀ a d, p a = true → a ∉ q → a ≠ b → Edge x.g a d → (d : Int) ≠ c → p d = true)
    (hk : ∀ (A' : Nat → AV) (H' : AHeap) (N' : Nat) (p' : Nat → Bool) (q' : List Nat), 2 * unm x.g.length p' + q'.length ≤ K → CoK x c H0 N0 p' q' ⟨A', H', N'⟩ → ComeS (Edge x.g) (fun y => (y : Int) ≠ c) p' q' → onward Try.prog fs Q (.exit 2) ⟨A', H', N'⟩) :
    run Try.prog (.loop a_bobbinref12_Comeb1) fs Q ⟨A, H, N⟩ := by
  have hr := hx.rows _ (List.getElem_mem hb)
  have hlen := x.len
  refine run_loop (CoJ x c H0 N0 b K x.g[b].l) x.g[b].l.length ?_ ?_
  · exact ⟨p, q, 0, by omega, by omega, h7, h8, hle, hC, hpb, hsn, hqm, hz, hcl, fun i d hi => by omega⟩
  · rintro k A1 H1 N1 ⟨p, q, j, rfl, hj, e7, e8, hle, hC, hpb, hsn, hqm, hz, hcl, hcb⟩
    simp only at e7 e8
    have e0 : A1 0 = x.av := hC.h0
    have e1 : A1 1 = i64 c := hC.h1
    have e5 : A1 5 = .ms N0 0 x.g.length 1 := hC.h5
    have hq := row_at x hx hb
    have hrlen := row_alen _ hr
    have wr : IntKind.i64.wrap ((j : Int) + 1) = ((j + 1 : Nat) : Int) := by rw [wrap_i64 (by omega) (by omega)]; rfl
    have keep : ∀ A' : Nat → AV, A' 0 = A1 0 → A' 1 = A1 1 → A' 5 = A1 5 → A' 6 = A1 6 → CoK x c H0 N0 p q ⟨A', H1, N1⟩ := fun A' k0 k1 k5 k6 =>
      ⟨k0.trans hC.h0, k1.trans hC.h1, k5.trans hC.h5, by show QAt H1 (A' 6) q; rw [k6]; exact hC.h6, hC.f, hC.n, hC.m, fun i o l h => hC.id i o l (k6.symm.trans h), hC.old⟩
    by_cases hjl : j = x.g[b].l.length
    · subst hjl
      simp [a_bobbinref12_Comeb1, e0, e7, e8, hq, hrlen, -alen]
      refine hk _ _ _ p q hle (keep _ (by simp [e0]) (by simp) (by simp) (by simp)) ⟨hsn, hqm, fun a d ha haq hE hd => ?_, hz⟩
      by_cases hab : a = b
      · subst hab
        obtain ⟨r, h1, h2⟩ := hE
        rw [List.getElem?_eq_getElem hb] at h1; cases h1
        obtain ⟨i, hi, hid⟩ := List.getElem_of_mem h2
        exact hcb i d hi (by rw [List.getElem?_eq_getElem hi, hid]) hd
      · exact hcl a d ha haq hab hE hd
    · have hlt : j < x.g[b].l.length := by omega
      have hqc := cell_at _ hr hlt
      have hdin := hin _ (List.getElem_mem hb) _ (List.getElem_mem hlt)
      obtain ⟨d, hd⟩ : ∃ d : Nat, x.g[b].l[j] = (d : Int) := ⟨(x.g[b].l[j]).toNat, by omega⟩
      rw [hd] at hqc hdin
      have hjd : x.g[b].l[j]? = some (d : Int) := by rw [List.getElem?_eq_getElem hlt, hd]
      have hdg : d < x.g.length := by omega
      have hE : Edge x.g b d := ⟨_, List.getElem?_eq_getElem hb, by rw [← hd]; exact List.getElem_mem hlt⟩
      have same : ∀ {i e : Nat}, i < j + 1 → x.g[b].l[i]? = some (e : Int) → i < j ∨ e = d := fun {i e} hi he => by
        by_cases hij : i = j
        · subst hij; rw [hjd] at he; right; have := Option.some.inj he; omega
        · left; omega
      have skip : (∀ e : Nat, e = d → (e : Int) ≠ c → p e = true) → ∀ A' : Nat → AV, A' 0 = A1 0 → A' 1 = A1 1 → A' 5 = A1 5 → A' 6 = A1 6 → A' 7 = i64 b → A' 8 = i64 (j + 1 : Nat) → ∃ m, m < x.g[b].l.length - j ∧ CoJ x c H0 N0 b K x.g[b].l m ⟨A', H1, N1⟩ := fun hs A' k0 k1 k5 k6 k7 k8 =>
        ⟨x.g[b].l.length - (j + 1), by omega, ⟨p, q, j + 1, rfl, by omega, k7, k8, hle, keep A' k0 k1 k5 k6, hpb, hsn, hqm, hz, hcl, fun i e hi he hec => (same hi he).elim (fun h => hcb i e h he hec) (fun h => hs e h hec)⟩⟩
      by_cases hdc : (d : Int) = c
      · simp [a_bobbinref12_Comeb1, e0, e1, e7, e8, hq, hrlen, hlt, hqc, hdc, wr, -alen]
        exact skip (fun e he hec => absurd (by rw [he]; exact hdc) hec) _ (by simp [e0]) (by simp [e1]) (by simp) (by simp) (by simp [e7]) (by simp)
      · have ix : aindex 1 (.ms N0 0 x.g.length 1) (i64 d) = some (.mp N0 d) := by simp [aindex, hdg]
        have hld : aload H1 false 1 (.mp N0 d) = some (bl (p d)) := by
          have := hC.m
          simp only at this
          simp [aload, apart, this, marks_at hdg]
        have ld2 : ∀ (cs : List AV) (H : AHeap), aload H false 1 (.ip cs 0) = cs[0]? := fun cs H => rfl
        cases hpd : p d with
        | true =>
          rw [hpd] at hld
          simp [a_bobbinref12_Comeb1, e0, e1, e5, e7, e8, hq, hrlen, hlt, hqc, hdc, ix, hld, ld2, wr, -alen, -aload]
          exact skip (fun e he _ => by rw [he]; exact hpd) _ (by simp [e0]) (by simp [e1]) (by simp [e5]) (by simp) (by simp [e7]) (by simp)
        | false =>
          rw [hpd] at hld
          have hst : astore H1 1 (.mp N0 d) (bl true) = some (H1.set N0 (.blk (marks x.g.length fun y => p y || y == d))) := by
            have := hC.m
            simp only at this
            simp [astore, this, marks_len, show d + 1 ≤ x.g.length by omega, ← marks_set]
          have hq6 : QAt (H1.set N0 (.blk (marks x.g.length fun y => p y || y == d))) (A1 6) q := by
            obtain ⟨id, off, cs, h1, h2, h3, h4⟩ := hC.h6
            refine ⟨id, off, cs, h1, ?_, h3, h4⟩
            have := hC.id id off _ h1
            simp only at h2
            simp [show id ≠ N0 by omega, h2]
          have hF2 : Fresh (H1.set N0 (.blk (marks x.g.length fun y => p y || y == d))) N1 := fun i hi => by
            have h1 : N0 + 2 ≤ N1 := hC.n
            have h2 : Fresh H1 N1 := hC.f
            simp [show i ≠ N0 by omega, h2 i hi]
          have hu := unm_set (n := x.g.length) hdg hpd
          obtain ⟨H2, id, o6, hv, happ, hq2, hF3, hold⟩ := hq6.push hF2 (by omega) d
          have hidN := hC.id id _ _ hv
          have hn2 : N0 + 2 ≤ N1 := hC.n
          have hm2 : H2 N0 = some (.blk (marks x.g.length fun y => p y || y == d)) := by
            rw [hold N0 (by omega) (by omega)]; simp
          simp [a_bobbinref12_Comeb1, e0, e1, e5, e7, e8, hq, hrlen, hlt, hqc, hdc, ix, hld, ld2, hst, happ, wr, -alen, -aload, -astore]
          refine ⟨x.g[b].l.length - (j + 1), by omega, ⟨fun y => p y || y == d, q ++ [d], j + 1, rfl, by omega, by simp [e7], by simp, by simp; omega, ⟨by simp [e0], by simp [e1], by simp [e5], by simpa using hq2, hF3, by show N0 + 2 ≤ N1 + 1; omega, hm2, ?_, ?_⟩, by simp [hpb], ?_, ?_, by simp [hz], ?_, ?_⟩⟩
          · intro i o l h
            simp at h
            omega
          · intro i hi
            show H2 i = H0 i
            rw [hold i (by omega) (by omega)]
            simp [show i ≠ N0 by omega]
            exact hC.old i hi
          · intro e he
            simp at he
            rcases he with h | rfl
            · exact hsn e h
            · exact .step (hsn b hpb) hE hdc
          · intro e he
            simp at he
            rcases he with h | rfl
            · simp [hqm e h]
            · simp
          · intro a e ha haq hab hE2 hec
            simp at ha haq
            rcases ha with h | rfl
            · simp [hcl a e h haq.1 hab hE2 hec]
            · exact absurd rfl haq.2
          · intro i e hi he hec
            rcases same hi he with h | rfl
            · simp [hcb i e h he hec]
            · simp

end
end Go.Proofs.Ytmbbklddjkmcmaa
