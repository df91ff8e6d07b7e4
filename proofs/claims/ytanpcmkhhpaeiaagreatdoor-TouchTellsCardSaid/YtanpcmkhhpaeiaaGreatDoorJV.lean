/- touch: what each Fun does in all, by the document. -/
import Derived.Test.YtanpcmkhhpaeiaaGreatDoorTG
import Derived.Test.YtanpcmkhhpaeiaaGreatDoorJA
namespace Go.Proofs.YtanpcmkhhpaeiaaGreatDoor
set_option linter.unusedSimpArgs false
set_option linter.unusedVariables false
open Go Go.Fw
/-- What is reached by so many calls. -/
def Rn (own : Nat → SumV) (i : Nat) : Nat → Nat → Prop
  | 0, k => k = i
  | r + 1, k => Rn own i r k ∨ ∃ m, Rn own i r m ∧ (k : Int) ∈ (own m).c
theorem Rn.rchd {own : Nat → SumV} {i : Nat} : ∀ (r : Nat) {k : Nat}, Rn own i r k → Rchd own i k
  | 0, k, h => by cases h; exact .refl
  | r + 1, k, h => by
    rcases h with h | ⟨m, h1, h2⟩
    · exact Rn.rchd r h
    · exact .step (Rn.rchd r h1) h2
theorem Rn.start {own : Nat → SumV} {i : Nat} : ∀ r, Rn own i r i
  | 0 => rfl
  | r + 1 => .inl (Rn.start r)
open Classical in
noncomputable def cntR (own : Nat → SumV) (i n r : Nat) : Nat := ((List.range n).filter fun k => decide (Rn own i r k)).length
open Classical in
theorem Rn.count {own : Nat → SumV} {i n : Nat} (hi : i < n) (hc : ∀ k, k < n → ∀ c : Nat, (c : Int) ∈ (own k).c → c < n) : ∀ r, (∀ k, Rn own i (r + 1) k → Rn own i r k) ∨ r + 1 ≤ cntR own i n r := by
  have hlt : ∀ r {k}, Rn own i r k → k < n := fun r => by
    induction r with
    | zero => intro k h; cases h; exact hi
    | succ r ih =>
      intro k h
      rcases h with h | ⟨m, h1, h2⟩
      · exact ih h
      · exact hc m (ih h1) k h2
  intro r
  induction r with
  | zero =>
    right
    have hm : i ∈ (List.range n).filter fun k => decide (Rn own i 0 k) := List.mem_filter.2 ⟨List.mem_range.2 hi, by simp [Rn]⟩
    exact List.length_pos_of_mem hm
  | succ r ih =>
    rcases ih with ih | ih
    · left
      intro k h
      rcases h with h | ⟨m, h1, h2⟩
      · exact h
      · exact .inr ⟨m, ih m h1, h2⟩
    · by_cases hcl : ∀ k, Rn own i (r + 1) k → Rn own i r k
      · left
        intro k h
        rcases h with h | ⟨m, h1, h2⟩
        · exact h
        · exact .inr ⟨m, hcl m h1, h2⟩
      · right
        obtain ⟨k, hk⟩ := not_forall.1 hcl
        obtain ⟨h1, h2⟩ := not_imp.1 hk
        have := filter_lt (p := fun k => decide (Rn own i (r + 1) k)) (q := fun k => decide (Rn own i r k)) (l := List.range n) (x := k) (List.mem_range.2 (hlt _ h1)) (by simpa using h1) (by simpa using h2) (fun y hy => by simp at hy ⊢; exact .inl hy)
        unfold cntR at ih ⊢
        omega
/-- Behind as many rounds as there are Funs all is reached that is ever reached. -/
theorem Rn.all {own : Nat → SumV} {i n : Nat} (hi : i < n) (hc : ∀ k, k < n → ∀ c : Nat, (c : Int) ∈ (own k).c → c < n) (k : Nat) : Rn own i n k ↔ Rchd own i k := by
  refine ⟨Rn.rchd n, fun h => ?_⟩
  have hcl : ∀ k, Rn own i (n + 1) k → Rn own i n k := by
    rcases Rn.count hi hc n with h | h
    · exact h
    · exfalso
      unfold cntR at h
      have := List.length_filter_le (fun k => @decide (Rn own i n k) (Classical.propDecidable _)) (List.range n)
      rw [List.length_range] at this
      omega
  exact Rchd.closed (L := Rn own i n) (Rn.start n) (fun k hk c hcc => hcl c (.inr ⟨k, hk, hcc⟩)) h

/-- What programs are gone through. -/
structure PrgC (p : PrgV) : Prop where
  shr : p.Shr
  calls : ∀ k, k < p.funs.length → ∀ c, c ∈ (ownP p k).c → ∃ c' : Nat, c = c' ∧ c' < p.funs.length
theorem PrgC.call {p : PrgV} (h : PrgC p) : ∀ k, k < p.funs.length → ∀ c : Nat, (c : Int) ∈ (ownP p k).c → c < p.funs.length := fun k hk c hc => by
  obtain ⟨c', h1, h2⟩ := h.calls k hk _ hc
  have h3 : c = c' := Int.ofNat_inj.1 h1
  rw [h3]; exact h2
theorem PrgC.own {p : PrgV} (h : PrgC p) {k : Nat} (hk : k < p.funs.length) : (ownP p k).le 100000 := by
  have h1 := ownV_le p.funs[k].code
  have h2 := h.shr.c p.funs[k] (List.getElem_mem hk)
  unfold ownP
  rw [List.getElem?_eq_getElem hk]
  obtain ⟨q1, q2, q3, q4, q5⟩ := h1
  exact ⟨by simp only; omega, by simp only; omega, by simp only; omega, by simp only; omega, by simp only; omega⟩
theorem PrgC.le {p : PrgV} (h : PrgC p) {S : Nat → Prop} {s : SumV} (hs : IsSum (ownP p) S s) (hS : ∀ m, S m → m < p.funs.length) : s.le 100000000 := by
  have h1 := hs.le hS fun k hk => h.own hk
  have h2 := h.shr.n
  have : p.funs.length * 100000 ≤ 100000000 := by omega
  obtain ⟨a, b, c, d, e⟩ := h1
  exact ⟨by omega, by omega, by omega, by omega, by omega⟩
theorem PrgC.rn {p : PrgV} (h : PrgC p) {i : Nat} (hi : i < p.funs.length) : ∀ r {k}, Rn (ownP p) i r k → k < p.funs.length := fun r => by
  induction r with
  | zero => intro k hk; cases hk; exact hi
  | succ r ih =>
    intro k hk
    rcases hk with hk | ⟨m, h1, h2⟩
    · exact ih hk
    · exact h.call m (ih h1) k h2
theorem PrgC.one {p : PrgV} (i : Nat) : IsSum (ownP p) (fun m => m = i) (ownP p i) := IsSum.one i fun f hf => by
  unfold ownP
  split
  · exact ownV_lt _ _
  · rw [noS_get]; exact List.Pairwise.nil
end Go.Proofs.YtanpcmkhhpaeiaaGreatDoor

/- touch: the document's Of. -/
namespace Go.Proofs.YtanpcmkhhpaeiaaGreatDoor
set_option linter.unusedSimpArgs false
set_option linter.unusedVariables false
open Go Go.Fw
section
variable {p : PrgV} {A : Nat → AV} {H : AHeap} {N : Nat} {fs : List Fr} {Q : Post}

/-- What is known while the calls of a round are gone through. -/
def RfI (p : PrgV) (A : Nat → AV) (H0 : AHeap) (N N0 i r b lo : Nat) (L : List Int) (w : AV) (m : Nat) (s : St) : Prop :=
  ∃ (k : Nat) (S : SumV) (x1 x2 x3 x4 x5 : AV), k ≤ L.length ∧ m = L.length - k ∧ (∀ t ∈ [1, 4, 5, 6, 7, 8], s.A t = A t) ∧ s.A 9 = i64 k ∧ Fresh s.H s.N ∧ N ≤ s.N ∧ (∀ j, j < N0 → s.H j = H0 j) ∧
    s.H b = some (.blk [x1, x2, x3, x4, x5]) ∧ FshAt s.H lo S x1 x2 x3 x4 x5 ∧ Fsh s.H lo L w ∧ IsSum (ownP p) (fun m => Rn (ownP p) i r m ∨ ∃ c ∈ L.take k, m = c.toNat) S
theorem rf_in {c : ACode} (hc : .loop a_bobbinref18_Ofb1 = c) (hC : PrgC p) {i r b lo N0 : Nat} {H0 : AHeap} {L : List Int} {w x1 x2 x3 x4 x5 : AV} {S : SumV} (hi : i < p.funs.length)
    (h1 : A 1 = .ip p.cells 0) (h6 : A 6 = .mp b 0) (h8 : A 8 = w) (h9 : A 9 = i64 0) (hb : H b = some (.blk [x1, x2, x3, x4, x5])) (hx : FshAt H lo S x1 x2 x3 x4 x5) (hw : Fsh H lo L w) (hLl : L.length ≤ 100000000) (hS : IsSum (ownP p) (Rn (ownP p) i r) S)
    (hL : ∀ v, v ∈ L ↔ ∃ m, Rn (ownP p) i r m ∧ v ∈ (ownP p m).c) (hF : Fresh H N) (hold : ∀ j, j < N0 → H j = H0 j) (hb0 : N0 ≤ b) (hlo : lo ≤ N)
    (hk : ∀ A' H' N' y1 y2 y3 y4 y5 S', (∀ t ∈ [1, 4, 5, 6, 7], A' t = A t) → Fresh H' N' → N ≤ N' → (∀ j, j < N0 → H' j = H0 j) → H' b = some (.blk [y1, y2, y3, y4, y5]) → FshAt H' lo S' y1 y2 y3 y4 y5 → IsSum (ownP p) (Rn (ownP p) i (r + 1)) S' → onward Tryz.prog fs Q .normal ⟨A', H', N'⟩) :
    run Tryz.prog c (.blk 4 :: fs) Q ⟨A, H, N⟩ := by
  subst hc
  have hn := hC.shr.n
  refine run_loop (RfI p A H0 N N0 i r b lo L w) L.length ?_ ?_
  · exact ⟨0, S, x1, x2, x3, x4, x5, by omega, by omega, fun t _ => rfl, h9, hF, Nat.le_refl _, hold, hb, hx, hw, hS.congr fun m => by simp⟩
  · rintro m A1 H1 N1 ⟨k, S, x1, x2, x3, x4, x5, hkl, rfl, hA, e9, hF1, hN1, hold1, hB, hX, hW, hS⟩
    simp only at hA e9 hF1 hN1 hold1 hB hX hW
    have e1 : A1 1 = .ip p.cells 0 := (hA 1 (by simp)).trans h1
    have e6 : A1 6 = .mp b 0 := (hA 6 (by simp)).trans h6
    have e8 : A1 8 = w := (hA 8 (by simp)).trans h8
    have lw := hW.lst.len
    by_cases hkk : k < L.length
    · have n1 : (k : Int) < L.length := by omega
      obtain ⟨x, hx⟩ : ∃ x, L[k]? = some x := ⟨L[k], List.getElem?_eq_getElem hkk⟩
      have hxm : x ∈ L := List.mem_of_getElem? hx
      obtain ⟨m, hm1, hm2⟩ := (hL x).1 hxm
      obtain ⟨c', rfl, hc'⟩ := hC.calls m (hC.rn hi r hm1) x hm2
      obtain ⟨q, hq, lq⟩ := hW.lst.get hx
      obtain ⟨f, hf⟩ : ∃ f, p.funs[c']? = some f := ⟨p.funs[c'], List.getElem?_eq_getElem hc'⟩
      have hfl := hC.shr.c f (List.mem_of_getElem? hf)
      have hq2 : aindex 5 (.sl p.fk 5 (funCells p.funs)) (i64 (c' : Nat)) = some (.ip f.cells 0) := aindex_sl (by omega) (by simp [funCells, hf])
      have lf : ∀ X, aload X true 5 (.ip f.cells 0) = some (.agg f.cells) := fun X => rfl
      have hfc : f.cells = [str f.name, bl f.thread, i64 f.params, i64 f.regs, .sl f.k 6 (codeCells f.code)] := rfl
      have ld2 : aload (fun _ => none) false 1 (.ip p.cells 2) = some (.sl p.fk 5 (funCells p.funs)) := rfl
      have l6 : aload H1 true 5 (.mp b 0) = some (.agg [x1, x2, x3, x4, x5]) := by simp [hB]
      rw [hfc] at hq2 lf
      have hSn : ∀ m, (Rn (ownP p) i r m ∨ ∃ c ∈ L.take k, m = c.toNat) → m < p.funs.length := fun m hm => by
        rcases hm with hm | ⟨c0, h1, rfl⟩
        · exact hC.rn hi r hm
        · obtain ⟨m', h2, h3⟩ := (hL c0).1 (List.mem_of_mem_take h1)
          obtain ⟨c1, rfl, h4⟩ := hC.calls m' (hC.rn hi r h2) c0 h3
          simpa using h4
      have lS := hC.le hS hSn
      have lo' := hC.own hc'
      have up : ∀ {r : SumV}, r.le 100000000 → r.le 500000000 := fun ⟨a, b, c, d, e⟩ => ⟨by omega, by omega, by omega, by omega, by omega⟩
      have up2 : ∀ {r : SumV}, r.le 100000 → r.le 500000000 := fun ⟨a, b, c, d, e⟩ => ⟨by omega, by omega, by omega, by omega, by omega⟩
      have hoe : ownP p c' = ownV f.code := by unfold ownP; rw [hf]
      simp [a_bobbinref18_Ofb1, e1, e6, e8, e9, ld2, l6, lw, n1, hq, lq, hq2, lf, -alen, -aload]
      refine (p_refOwn (code := f.code) (.sl _) rfl rfl rfl rfl (by omega) N1).monoF ?_
      rintro r2 H2 N2 ⟨hN2, hk2, v1, v2, v3, v4, v5, rfl, hv⟩ hF2 _
      rw [← hoe] at hv
      simp
      refine ⟨fun id o h => (hk2 id (hF1.lt h)).trans h, ?_⟩
      refine (p_refBoth (hX.keep hF1 hk2).at hv.at (up lS) (up2 lo') N2).monoF ?_
      rintro r3 H3 N3 ⟨hN3, hk3, u1, u2, u3, u4, u5, rfl, hu⟩ hF3 _
      have hblt := hF1.lt hB
      have hB' : H3 b = some (.blk [x1, x2, x3, x4, x5]) := (hk3 b (by omega)).trans ((hk2 b hblt).trans hB)
      have hX3 := (hX.keep hF1 hk2).keep hF2 hk3
      have hwi : IntKind.i64.wrap ((k : Int) + 1) = ((k + 1 : Nat) : Int) := by rw [wrap_i64 (by omega) (by omega)]; rfl
      simp [e6, e9, hB', splice, hu.r.lst.cells, hu.w.lst.cells, hu.t.lst.cells, hu.g.lst.cells, hu.c.lst.cells, hwi, -AV.cells]
      have hne : ∀ j, j < N3 → j ≠ b → (H3.set b (.blk [u1, u2, u3, u4, u5])) j = H3 j := fun j _ hj => by simp only [AHeap.set]; rw [if_neg hj]
      refine ⟨L.length - (k + 1), by omega, k + 1, bothS S (ownP p c'), u1, u2, u3, u4, u5, by omega, rfl, fun t ht => ?_, by simp, Fresh.rewr hF3 hB', Nat.le_trans hN1 (Nat.le_trans hN2 hN3), fun j hj => ?_, ?_, ?_, ?_, ?_⟩
      · simp only [List.mem_cons, List.not_mem_nil, or_false] at ht
        rcases ht with rfl | rfl | rfl | rfl | rfl | rfl <;> simp [hA]
      · simp only [AHeap.set]; rw [if_neg (by omega)]
        exact (hk3 j (by omega)).trans ((hk2 j (by omega)).trans (hold1 j hj))
      · simp only [AHeap.set, if_true]
      · exact (hu.mono (by omega)).keepX hF3 hB' hX3.rows hne
      · exact ((hW.keep hF1 hk2).keep hF2 hk3).keepX hF3 hB' hX3.rows hne
      · refine (hS.both (PrgC.one c')).congr fun m => ?_
        rw [take_next hkk]
        have hxe : L[k] = (c' : Int) := (List.getElem?_eq_some_iff.1 hx).2
        rw [hxe]
        simp only [List.mem_append, List.mem_singleton]
        constructor
        · rintro ((h | ⟨c0, h1, h2⟩) | h)
          · exact .inl h
          · exact .inr ⟨c0, .inl h1, h2⟩
          · exact .inr ⟨c', .inr rfl, by simpa using h⟩
        · rintro (h | ⟨c0, h1 | rfl, h2⟩)
          · exact .inl (.inl h)
          · exact .inl (.inr ⟨c0, h1, h2⟩)
          · exact .inr (by simpa using h2)
    · have hke : k = L.length := by omega
      have n1 : ¬ ((k : Int) < L.length) := by omega
      simp [a_bobbinref18_Ofb1, e8, e9, lw, n1, -alen]
      rw [hke, List.take_length] at hS
      refine hk _ _ _ _ _ _ _ _ _ (fun t ht => ?_) hF1 hN1 hold1 hB hX (hS.congr fun m => ?_)
      · simp only [List.mem_cons, List.not_mem_nil, or_false] at ht
        rcases ht with rfl | rfl | rfl | rfl | rfl <;> simp [hA]
      · constructor
        · rintro (h | ⟨c0, h1, rfl⟩)
          · exact .inl h
          · obtain ⟨m', h2, h3⟩ := (hL c0).1 h1
            obtain ⟨c1, rfl, _⟩ := hC.calls m' (hC.rn hi r h2) c0 h3
            exact .inr ⟨m', h2, by simpa using h3⟩
        · rintro (h | ⟨m', h2, h3⟩)
          · exact .inl h
          · exact .inr ⟨m, (hL m).2 ⟨m', h2, h3⟩, by simp⟩
end
end Go.Proofs.YtanpcmkhhpaeiaaGreatDoor

/- touch: the document's Of, whole. -/
namespace Go.Proofs.YtanpcmkhhpaeiaaGreatDoor
set_option linter.unusedSimpArgs false
set_option linter.unusedVariables false
open Go Go.Fw
section
variable {p : PrgV} {A : Nat → AV} {H : AHeap} {N : Nat} {fs : List Fr} {Q : Post}

def RfR (p : PrgV) (A : Nat → AV) (H0 : AHeap) (N N0 i b lo : Nat) (m : Nat) (s : St) : Prop :=
  ∃ (r : Nat) (S : SumV) (x1 x2 x3 x4 x5 : AV), r ≤ p.funs.length ∧ m = p.funs.length - r ∧ (∀ t ∈ [1, 4, 5, 6], s.A t = A t) ∧ s.A 7 = i64 r ∧ Fresh s.H s.N ∧ N ≤ s.N ∧ (∀ j, j < N0 → s.H j = H0 j) ∧
    s.H b = some (.blk [x1, x2, x3, x4, x5]) ∧ FshAt s.H lo S x1 x2 x3 x4 x5 ∧ IsSum (ownP p) (Rn (ownP p) i r) S
theorem rf_rnd {c : ACode} (hc : .loop a_bobbinref18_Ofb2 = c) (hC : PrgC p) {i b lo N0 : Nat} {H0 : AHeap} {x1 x2 x3 x4 x5 : AV} (hi : i < p.funs.length)
    (h1 : A 1 = .ip p.cells 0) (h6 : A 6 = .mp b 0) (h7 : A 7 = i64 0) (hb : H b = some (.blk [x1, x2, x3, x4, x5])) (hx : FshAt H lo (ownP p i) x1 x2 x3 x4 x5) (hF : Fresh H N) (hold : ∀ j, j < N0 → H j = H0 j) (hb0 : N0 ≤ b) (hlo : lo ≤ N)
    (hk : ∀ A' H' N' y1 y2 y3 y4 y5 S', (∀ t ∈ [1, 4, 5, 6], A' t = A t) → Fresh H' N' → N ≤ N' → (∀ j, j < N0 → H' j = H0 j) → H' b = some (.blk [y1, y2, y3, y4, y5]) → FshAt H' lo S' y1 y2 y3 y4 y5 → IsSum (ownP p) (Rchd (ownP p) i) S' → onward Tryz.prog fs Q .normal ⟨A', H', N'⟩) :
    run Tryz.prog c (.blk 2 :: fs) Q ⟨A, H, N⟩ := by
  subst hc
  obtain ⟨c1, ec1⟩ : ∃ c, (.loop a_bobbinref18_Ofb1 : ACode) = c := ⟨_, rfl⟩
  have hn := hC.shr.n
  have hlen : alen 1 (.sl p.fk 5 (funCells p.funs)) = some (p.funs.length : Int) := by simp [alen, funCells]
  have ld2 : aload (fun _ => none) false 1 (.ip p.cells 2) = some (.sl p.fk 5 (funCells p.funs)) := rfl
  refine run_loop (RfR p A H0 N N0 i b lo) p.funs.length ?_ ?_
  · exact ⟨0, ownP p i, x1, x2, x3, x4, x5, by omega, by omega, fun t _ => rfl, h7, hF, Nat.le_refl _, hold, hb, hx, (PrgC.one i).congr fun m => by simp [Rn]⟩
  · rintro m A1 H1 N1 ⟨r, S, x1, x2, x3, x4, x5, hrl, rfl, hA, e7, hF1, hN1, hold1, hB, hX, hS⟩
    simp only at hA e7 hF1 hN1 hold1 hB hX
    have e1 : A1 1 = .ip p.cells 0 := (hA 1 (by simp)).trans h1
    have e6 : A1 6 = .mp b 0 := (hA 6 (by simp)).trans h6
    have hwi : IntKind.i64.wrap ((r : Int) + 1) = ((r + 1 : Nat) : Int) := by rw [wrap_i64 (by omega) (by omega)]; rfl
    by_cases hr : r < p.funs.length
    · have n1 : (r : Int) < p.funs.length := by omega
      have l6 : aload H1 false 1 (.mp b 4) = some x5 := by simp [hB]
      unfold a_bobbinref18_Ofb2
      rw [ec1]
      simp [e1, e6, e7, ld2, hlen, n1, l6, -aload, -alen]
      have lS := hC.le hS fun m hm => hC.rn hi r hm
      refine rf_in ec1 hC hi (L := S.c) (w := x5) (by simp [e1]) (by simp [e6]) (by simp) (by simp) hB hX hX.c lS.2.2.2.2 hS (fun v => (hS 4 (by omega)).2 v) hF1 hold1 hb0 (by omega) fun A2 H2 N2 y1 y2 y3 y4 y5 S' hA2 hF2 hN2 hold2 hB2 hX2 hS2 => ?_
      have f7 : A2 7 = i64 r := (hA2 7 (by simp)).trans (by simp [e7])
      simp [f7, hwi]
      refine ⟨p.funs.length - (r + 1), by omega, r + 1, S', y1, y2, y3, y4, y5, by omega, rfl, fun t ht => ?_, by simp, hF2, Nat.le_trans hN1 hN2, hold2, hB2, hX2, hS2⟩
      simp only [List.mem_cons, List.not_mem_nil, or_false] at ht
      rcases ht with rfl | rfl | rfl | rfl <;> simp [hA2, hA]
    · have hre : r = p.funs.length := by omega
      have n1 : ¬ ((r : Int) < p.funs.length) := by omega
      unfold a_bobbinref18_Ofb2
      rw [ec1]
      simp [e1, e7, ld2, hlen, n1, -aload, -alen]
      rw [hre] at hS
      refine hk _ _ _ _ _ _ _ _ _ (fun t ht => ?_) hF1 hN1 hold1 hB hX (hS.congr fun m => Rn.all hi hC.call m)
      simp only [List.mem_cons, List.not_mem_nil, or_false] at ht
      rcases ht with rfl | rfl | rfl | rfl <;> simp [hA]

def RfO (p : PrgV) (A : Nat → AV) (H0 : AHeap) (N0 : Nat) (m : Nat) (s : St) : Prop :=
  ∃ (i ar : Nat) (v : AV) (es : List (List AV)), i ≤ p.funs.length ∧ m = p.funs.length - i ∧ s.A 1 = A 1 ∧ s.A 4 = v ∧ s.A 5 = i64 i ∧ N0 ≤ s.N ∧ Fresh s.H s.N ∧ (∀ j, j < N0 → s.H j = H0 j) ∧ Arr s.H N0 es v ar ∧ es.length = i ∧ Rows5 s.H N0 ar es (fun k s => IsSum (ownP p) (Rchd (ownP p) k) s)
theorem rf_out {c : ACode} (hc : .loop a_bobbinref18_Ofb3 = c) (hC : PrgC p) (h1 : A 1 = .ip p.cells 0) (h4 : A 4 = .sl .nil 0 []) (h5 : A 5 = i64 0) (hF : Fresh H N)
    (hk : ∀ A' H' N' v es ar, A' 4 = v → N ≤ N' → Fresh H' N' → (∀ j, j < N → H' j = H j) → Arr H' N es v ar → es.length = p.funs.length → Rows5 H' N ar es (fun k s => IsSum (ownP p) (Rchd (ownP p) k) s) → onward Tryz.prog fs Q .normal ⟨A', H', N'⟩) :
    run Tryz.prog c (.blk 0 :: fs) Q ⟨A, H, N⟩ := by
  subst hc
  obtain ⟨c2, ec2⟩ : ∃ c, (.loop a_bobbinref18_Ofb2 : ACode) = c := ⟨_, rfl⟩
  have hn := hC.shr.n
  have hlen : alen 1 (.sl p.fk 5 (funCells p.funs)) = some (p.funs.length : Int) := by simp [alen, funCells]
  have ld2 : aload (fun _ => none) false 1 (.ip p.cells 2) = some (.sl p.fk 5 (funCells p.funs)) := rfl
  refine run_loop (RfO p A H N) p.funs.length ?_ ?_
  · exact ⟨0, 0, .sl .nil 0 [], [], by omega, by omega, rfl, h4, h5, Nat.le_refl _, hF, fun _ _ => rfl, ⟨by simp, .inl ⟨rfl, rfl⟩⟩, rfl, .nil⟩
  · rintro m A1 H1 N1 ⟨i, ar, v, es, hi, rfl, e1, e4, e5, hN1, hF1, hold1, hA1, hel, hR1⟩
    simp only at e1 e4 e5 hN1 hF1 hold1 hA1 hR1
    rw [h1] at e1
    have hwi : IntKind.i64.wrap ((i : Int) + 1) = ((i + 1 : Nat) : Int) := by rw [wrap_i64 (by omega) (by omega)]; rfl
    have hvc := hA1.cells
    by_cases hil : i < p.funs.length
    · have n1 : (i : Int) < p.funs.length := by omega
      obtain ⟨f, hf⟩ : ∃ f, p.funs[i]? = some f := ⟨p.funs[i], List.getElem?_eq_getElem hil⟩
      have hfl := hC.shr.c f (List.mem_of_getElem? hf)
      have hq2 : aindex 5 (.sl p.fk 5 (funCells p.funs)) (i64 (i : Nat)) = some (.ip f.cells 0) := aindex_sl (by omega) (by simp [funCells, hf])
      have lf : ∀ X, aload X true 5 (.ip f.cells 0) = some (.agg f.cells) := fun X => rfl
      have hfc : f.cells = [str f.name, bl f.thread, i64 f.params, i64 f.regs, .sl f.k 6 (codeCells f.code)] := rfl
      rw [hfc] at hq2 lf
      have hoe : ownP p i = ownV f.code := by unfold ownP; rw [hf]
      unfold a_bobbinref18_Ofb3
      rw [ec2]
      simp [e1, e5, ld2, hlen, n1, hq2, lf, -aload, -alen]
      refine (p_refOwn (code := f.code) (.sl _) rfl rfl rfl rfl (by omega) N1).monoF ?_
      rintro r2 H2 N2 ⟨hN2, hk2, v1, v2, v3, v4, v5, rfl, hv⟩ hF2 _
      rw [← hoe] at hv
      simp [splice, hv.r.lst.cells, hv.w.lst.cells, hv.t.lst.cells, hv.g.lst.cells, hv.c.lst.cells, -AV.cells]
      have kX : ∀ j, j < N2 → (H2.set N2 (.blk [v1, v2, v3, v4, v5])) j = H2 j := fun j hj => by simp only [AHeap.set]; rw [if_neg (by omega)]
      have FX : Fresh (H2.set N2 (.blk [v1, v2, v3, v4, v5])) (N2 + 1) := hF2.set _
      have bX : (H2.set N2 (.blk [v1, v2, v3, v4, v5])) N2 = some (.blk [v1, v2, v3, v4, v5]) := by simp [AHeap.set]
      have vX := hv.keep hF2 kX
      generalize H2.set N2 (.blk [v1, v2, v3, v4, v5]) = X at kX FX bX vX ⊢
      refine rf_rnd ec2 hC (b := N2) (lo := N1) (N0 := N1) (H0 := H1) hil (by simp [e1]) (by simp) (by simp) bX vX FX (fun j hj => (kX j (by omega)).trans (hk2 j hj)) hN2 (by omega) fun A3 H3 N3 y1 y2 y3 y4 y5 S hA3 hF3 hN3 hold3 hB3 hX3 hS3 => ?_
      have f4 : A3 4 = v := (hA3 4 (by simp)).trans (by simp [e4])
      have f5 : A3 5 = i64 i := (hA3 5 (by simp)).trans (by simp [e5])
      have f1 : A3 1 = .ip p.cells 0 := (hA3 1 (by simp)).trans (by simp [e1])
      have f6 : A3 6 = .mp N2 0 := (hA3 6 (by simp)).trans (by simp)
      have l6 : aload H3 true 5 (.mp N2 0) = some (.agg [y1, y2, y3, y4, y5]) := by simp [hB3]
      have hA4 : Arr H3 N es v ar := hA1.keep hF1 fun j _ hj => hold3 j hj
      obtain ⟨H', happ, hA6, hF6, ho6, hk6⟩ := hA4.push (x := [y1, y2, y3, y4, y5]) hF3 (by omega) rfl (by omega)
      have ha5 : AtV H3 (fun id => N ≤ id ∧ (es ≠ [] → id ≠ ar)) S y1 y2 y3 y4 y5 := hX3.v fun id o hid _ => ⟨by omega, fun h0 => by
        obtain ⟨_, ⟨h1, _⟩ | ⟨_, _, _, h2⟩⟩ := hA1
        · exact absurd h1 h0
        · have := hF1.lt h2; omega⟩
      have hR6 := (hR1.keep (H' := H3) hF1 (fun j _ hj => hold3 j hj)).push hF3 hk6 ha5 (by rw [hel]; exact hS3)
      simp [f4, f5, f6, l6, happ, hwi, splice, -aload]
      refine ⟨p.funs.length - (i + 1), by omega, i + 1, N3, _, es ++ [[y1, y2, y3, y4, y5]], by omega, rfl, by simp [f1, h1], rfl, by simp, by simp only; omega, hF6, fun j hj => (ho6 j hj).trans ((hold3 j (by omega)).trans (hold1 j hj)), by simpa using hA6, by simp [hel], hR6⟩
    · have hie : i = p.funs.length := by omega
      have n1 : ¬ ((i : Int) < p.funs.length) := by omega
      unfold a_bobbinref18_Ofb3
      rw [ec2]
      simp [e1, e5, ld2, hlen, n1, -aload, -alen]
      exact hk _ _ _ v es ar (by simp [e4]) hN1 hF1 hold1 hA1 (by omega) hR1
end

theorem p_refOf {p : PrgV} (hp : p.Fit) (hs : p.Shr) (H : AHeap) (N : Nat) : ACall Tryz.prog 13 [.agg p.cells] H N (fun r H' N' => N ≤ N' ∧ (∀ j, j < N → H' j = H j) ∧
    ((prgB p = false ∧ r = .tup [.sl .nil 0 [], i64 4]) ∨ (prgB p = true ∧ ∃ v es ar, r = .tup [v, i64 0] ∧ Arr H' N es v ar ∧ es.length = p.funs.length ∧ Rows5 H' N ar es (fun k s => IsSum (ownP p) (Rchd (ownP p) k) s)))) := by
  obtain ⟨c3, ec3⟩ : ∃ c, (.loop a_bobbinref18_Ofb3 : ACode) = c := ⟨_, rfl⟩
  refine acallF mixed c_bobbinref18_Of (by simp) fun hF => ?_
  unfold a_bobbinref18_Of
  rw [ec3]
  have lp : ∀ X, aload X true 3 (.ip p.cells 0) = some (.agg p.cells) := fun X => rfl
  simp [lp, aload_ip, -aload]
  refine (p_refMay hp).acall ?_
  cases hb : prgB p with
  | false => simp
  | true =>
    simp
    refine rf_out ec3 ⟨hs, calls_in hb⟩ (by simp) (by simp) (by simp) hF fun A1 H1 N1 v es ar e4 hN1 hF1 hold1 hA1 hel1 hR1 => ?_
    have hvc := hA1.cells
    simp [e4, hvc]
    exact ⟨hN1, hold1, es, ar, hA1, hel1, hR1⟩
end Go.Proofs.YtanpcmkhhpaeiaaGreatDoor

/- touch: Of, its rows apart from each other. -/
namespace Go.Proofs.YtanpcmkhhpaeiaaGreatDoor
set_option linter.unusedSimpArgs false
set_option linter.unusedVariables false
open Go Go.Fw
/-- Rows that hold sums, each in blocks of its own. -/
def Rows5B (H : AHeap) (bd : Nat → Nat) (ar : Nat) (es : List (List AV)) (T : Nat → SumV → Prop) : Prop :=
  ∀ (k : Nat) (x : List AV), es[k]? = some x → ∃ a b c d e s, x = [a, b, c, d, e] ∧ AtV H (fun id => bd k ≤ id ∧ id < bd (k + 1) ∧ id ≠ ar) s a b c d e ∧ T k s
def BdOk (bd : Nat → Nat) (n lo hi : Nat) : Prop := (∀ k k', k ≤ k' → k' ≤ n → bd k ≤ bd k') ∧ lo ≤ bd 0 ∧ bd n ≤ hi
theorem Rows5B.nil {H : AHeap} {bd : Nat → Nat} {ar : Nat} {T : Nat → SumV → Prop} : Rows5B H bd ar [] T := fun k x hx => by simp at hx
theorem Rows5B.keep {H H' : AHeap} {bd : Nat → Nat} {ar N : Nat} {es : List (List AV)} {T : Nat → SumV → Prop} (h : Rows5B H bd ar es T) (hF : Fresh H N) (hk : ∀ j, j < N → H' j = H j) : Rows5B H' bd ar es T := fun k x hx => by
  obtain ⟨a, b, c, d, e, s, rfl, h1, h2⟩ := h k x hx
  exact ⟨a, b, c, d, e, s, rfl, h1.keep hF (fun id _ hlt => hk id hlt) (fun id hid _ => hid), h2⟩
theorem Rows5B.push {H H' : AHeap} {bd : Nat → Nat} {ar N : Nat} {es : List (List AV)} {T : Nat → SumV → Prop} (h : Rows5B H bd ar es T) (hm : ∀ k k', k ≤ k' → k' ≤ es.length → bd k ≤ bd k') (hF : Fresh H N) (hN : bd es.length ≤ N) (hk : ∀ j, j < N → (es ≠ [] → j ≠ ar) → H' j = H j)
    {a b c d e : AV} {s : SumV} (hs : AtV H (fun id => bd es.length ≤ id ∧ id < N ∧ (es ≠ [] → id ≠ ar)) s a b c d e) (hT : T es.length s) : Rows5B H' (fun k => if k ≤ es.length then bd k else N) N (es ++ [[a, b, c, d, e]]) T := fun k x hx => by
  by_cases hkl : k < es.length
  · rw [List.getElem?_append_left hkl] at hx
    obtain ⟨a', b', c', d', e', s', rfl, h1, h2⟩ := h k x hx
    refine ⟨a', b', c', d', e', s', rfl, h1.keep hF (fun id hid hlt => hk id hlt fun _ => hid.2.2) (fun id hid hlt => ?_), h2⟩
    simp only
    rw [if_pos (by omega), if_pos (by omega)]
    exact ⟨hid.1, hid.2.1, by omega⟩
  · rw [List.getElem?_append_right (by omega)] at hx
    have hke : k = es.length := by
      have := (List.getElem?_eq_some_iff.1 hx).1
      simp at this
      omega
    subst hke
    simp at hx
    refine ⟨a, b, c, d, e, s, hx.symm, hs.keep hF (fun id hid hlt => hk id hlt hid.2.2) (fun id hid hlt => ?_), hT⟩
    simp only
    rw [if_pos (Nat.le_refl _), if_neg (by omega)]
    exact ⟨hid.1, hid.2.1, by omega⟩
theorem BdOk.push {bd : Nat → Nat} {lo hi N : Nat} {es : List (List AV)} {x : List AV} (h : BdOk bd es.length lo hi) (hN : hi ≤ N) : BdOk (fun k => if k ≤ es.length then bd k else N) (es ++ [x]).length lo (N + 1) := by
  obtain ⟨h1, h2, h3⟩ := h
  refine ⟨fun k k' hk hk' => ?_, ?_, ?_⟩
  · by_cases a : k' ≤ es.length
    · simp only; rw [if_pos (by omega), if_pos a]; exact h1 k k' hk a
    · by_cases b : k ≤ es.length
      · simp only; rw [if_pos b, if_neg a]
        have := h1 k es.length b (Nat.le_refl _)
        omega
      · simp only; rw [if_neg b, if_neg a]; omega
  · simp only; rw [if_pos (by omega)]; exact h2
  · simp only [List.length_append, List.length_singleton]; rw [if_neg (by omega)]; omega
section
variable {A : Nat → AV} {H : AHeap} {N bo : Nat} {fs : List Fr} {Q : Post} {p : PrgV}
theorem of_yB {c : ACode} (hc : a_of_y = c) (hp : p.Shr) {vo : AV} {es : List (List AV)} {ar lo1 : Nat} (h4 : A 4 = .mp bo 0) (h7 : A 7 = .sl .nil 0 []) (hb : H bo = some (.blk [vo])) (hF : Fresh H N) (hA : Arr H lo1 es vo ar) (hel : es.length = p.funs.length)
    (hR : Rows5 H lo1 ar es (fun k s => s = ownP p k)) (hcalls : ∀ k, k < p.funs.length → ∀ c, c ∈ (ownP p k).c → ∃ c' : Nat, c = c' ∧ c' < p.funs.length)
    (hk : ∀ A' H' N' v es2 ar2, A' 7 = v → N ≤ N' → Fresh H' N' → (∀ j, j < N → H' j = H j) → Arr H' N es2 v ar2 → es2.length = p.funs.length → (∃ bd, BdOk bd es2.length N N' ∧ Rows5B H' bd ar2 es2 (fun k s => IsSum (ownP p) (Rchd (ownP p) k) s)) → onward Tryz.prog fs Q .normal ⟨A', H', N'⟩) : run Tryz.prog c fs Q ⟨A, H, N⟩ := by
  subst hc
  have hbN := hF.lt hb
  have hn := hp.n
  have hlen : alen 1 vo = some (p.funs.length : Int) := by rw [← hel]; exact hA.rd.len
  have lvo : aload H false 1 (.mp bo 0) = some vo := by simp [aload, hb]
  have hvc := hA.cells
  have hown : ∀ k, k < p.funs.length → ∃ f ∈ p.funs, ownP p k = ownV f.code := fun k hk => ⟨p.funs[k], List.getElem_mem hk, by unfold ownP; rw [List.getElem?_eq_getElem hk]⟩
  have hM : ∀ k, k < p.funs.length → (ownP p k).le 100000 := fun k hk => by
    obtain ⟨f, hf, e⟩ := hown k hk
    rw [e]
    have h1 := ownV_le f.code
    have h2 := hp.c f hf
    obtain ⟨q1, q2, q3, q4, q5⟩ := h1
    exact ⟨by omega, by omega, by omega, by omega, by omega⟩
  simp [a_of_y, h4, lvo, hlen, -aload, -alen]
  refine run_loop (fun m s => ∃ (j ar2 : Nat) (v : AV) (es2 : List (List AV)), j ≤ p.funs.length ∧ m = p.funs.length - j ∧ s.A 4 = .mp bo 0 ∧ s.A 7 = v ∧ s.A 29 = i64 p.funs.length ∧ s.A 30 = i64 j ∧ N ≤ s.N ∧ Fresh s.H s.N ∧ (∀ i, i < N → s.H i = H i) ∧ Arr s.H N es2 v ar2 ∧ es2.length = j ∧ ∃ bd, BdOk bd es2.length N s.N ∧ Rows5B s.H bd ar2 es2 (fun k s => IsSum (ownP p) (Rchd (ownP p) k) s)) p.funs.length ?_ ?_
  · exact ⟨0, 0, .sl .nil 0 [], [], by omega, by omega, by simp [h4], by simp [h7], by simp, by simp, Nat.le_refl _, hF, fun _ _ => rfl, ⟨by simp, .inl ⟨rfl, rfl⟩⟩, rfl, fun _ => N, ⟨fun _ _ _ _ => Nat.le_refl _, Nat.le_refl _, Nat.le_refl _⟩, .nil⟩
  · rintro m A1 H1 N1 ⟨j, ar2, v, es2, hj, rfl, e4, e7, e29, e30, hN1, hF1, hold, hA1, hel1, bd, hbd, hR1⟩
    simp only at e4 e7 e29 e30 hN1 hF1 hold hA1 hbd hR1
    have hvc1 := hA1.cells
    by_cases hjl : j < p.funs.length
    · have hj2 : (j : Int) < p.funs.length := by omega
      have hb1 : H1 bo = some (.blk [vo]) := (hold bo hbN).trans hb
      have hC : Ctx (ownP p) p.funs.length 100000 H1 N1 bo vo es := by
        refine ⟨hF1, hb1, RdSl.keepF hA.rd hF hold, hel, fun k x hx => ?_, fun k hk f hf => ?_, hM, by omega, by omega, hcalls⟩
        · obtain ⟨a, b, c, d, e, s, rfl, h1, rfl⟩ := hR k x hx
          exact ⟨a, b, c, d, e, rfl, ((h1.fsh (lo := lo1) fun id hid => hid.1).at).keep hF hold⟩
        · obtain ⟨f', _, e⟩ := hown k hk
          rw [e]
          exact ownV_lt _ _
      simp [a_touch_Ofb1, e4, e7, e29, e30, hj2, splice]
      obtain ⟨Hx, hHx⟩ : ∃ Hx, ((((H1.set N1 (.blk [.sl .nil 0 [], .sl .nil 0 [], .sl .nil 0 [], .sl .nil 0 [], .sl .nil 0 []])).set (N1 + 1) (.map [])).set (N1 + 1 + 1) (.blk [.mm (N1 + 1)])).set (N1 + 1 + 1 + 1) (.blk [.fn (.func 31) [] [.mp (N1 + 1 + 1) 0, .mp N1 0, .mp bo 0, .mp (N1 + 1 + 1 + 1) 0]])) = Hx := ⟨_, rfl⟩
      rw [hHx]
      have hVI : VI (ownP p) p.funs.length H1 N1 bo Hx (N1 + 4) [] := by
        refine ⟨fun i hi => ?_, ⟨.sl .nil 0 [], .sl .nil 0 [], .sl .nil 0 [], .sl .nil 0 [], .sl .nil 0 [], noS, ?_, ⟨.inl ⟨rfl, rfl⟩, .inl ⟨rfl, rfl⟩, .inl ⟨rfl, rfl⟩, .inl ⟨rfl, rfl⟩, .inl ⟨rfl, rfl⟩⟩, (IsSum.none _).congr fun k => by simp⟩, ?_, ?_, ?_, ?_, by omega, fun k hk => by simp at hk⟩
        · rw [← hHx]; simp only [AHeap.set]; repeat rw [if_neg (by omega)]
        · rw [← hHx]; simp only [AHeap.set]; rw [if_neg (by omega), if_neg (by omega), if_neg (by omega)]; simp only [if_true]
        · rw [← hHx]; simp only [AHeap.set]; rw [if_neg (by omega), if_neg (by omega)]; simp only [if_true, List.map_nil]
        · rw [← hHx]; simp only [AHeap.set]; rw [if_neg (by omega)]; simp only [if_true]
        · rw [← hHx]; simp only [AHeap.set, if_true]; rfl
        · intro i hi
          rw [← hHx]; simp only [AHeap.set]
          repeat rw [if_neg (by omega)]
          exact hF1 i (by omega)
      clear hHx
      refine ACall.mono (p_visit hC _ Hx (N1 + 4) [] j hjl hVI rfl) ?_
      rintro r5 H5 N5 ⟨rfl, L', hV, hN5, hP⟩
      obtain ⟨v1, v2, v3, v4, v5, s, hba, hfs, hsum⟩ := hV.ba
      have hs2 : IsSum (ownP p) (Rchd (ownP p) j) s := hsum.congr fun m => by
        constructor
        · intro hm
          rcases hP.rch m hm with h | h
          · simp at h
          · exact h
        · intro hm
          exact Rchd.closed (L := (· ∈ L')) hP.has (fun k hk c hc => hP.clo k hk (by simp) c hc) hm
      have c1 := hfs.r.lst.cells
      have c2 := hfs.w.lst.cells
      have c3 := hfs.t.lst.cells
      have c4 := hfs.g.lst.cells
      have c5 := hfs.c.lst.cells
      have hA5 : Arr H5 N es2 v ar2 := hA1.keep hF1 fun i _ hi => hV.old i hi
      obtain ⟨H', happ, hA6, hF6, ho6, hk6⟩ := hA5.push (x := [v1, v2, v3, v4, v5]) hV.F (by have := hV.le; omega) rfl (by omega)
      have hb1' := hbd.2.2
      have ha5 : AtV H5 (fun id => bd es2.length ≤ id ∧ id < N5 ∧ (es2 ≠ [] → id ≠ ar2)) s v1 v2 v3 v4 v5 := hfs.v fun id o hid ho => ⟨by omega, hV.F.lt ho, fun h0 => by
        obtain ⟨_, ⟨h1, _⟩ | ⟨_, _, _, h2⟩⟩ := hA1
        · exact absurd h1 h0
        · have := hF1.lt h2; omega⟩
      have hR6 := (hR1.keep (H' := H5) hF1 (fun i hi => hV.old i hi)).push hbd.1 hV.F (by have := hV.le; omega) hk6 ha5 (by rw [hel1]; exact hs2)
      have hb6 : BdOk (fun k => if k ≤ es2.length then bd k else N5) (es2 ++ [[v1, v2, v3, v4, v5]]).length N (N5 + 1) := hbd.push (by have := hV.le; omega)
      simp [e7, hba, happ, e4, e29, e30, splice]
      refine ⟨p.funs.length - (j + 1), by omega, j + 1, by omega, rfl, by rw [wrap_i64 (by omega) (by omega)]; rfl, by have := hV.le; omega, hF6, fun i hi => ?_, N5, es2 ++ [[v1, v2, v3, v4, v5]], hA6, by simp [hel1], _, hb6, hR6⟩
      rw [ho6 i hi, hV.old i (by omega)]
      exact hold i hi
    · have hj2 : ¬ (j : Int) < p.funs.length := by omega
      have hje : j = p.funs.length := by omega
      simp [a_touch_Ofb1, e29, e30, hj2]
      exact hk _ _ _ v es2 ar2 (by simp [e7]) hN1 hF1 hold hA1 (by omega) ⟨bd, hbd, hR1⟩
end
theorem p_OfB {p : PrgV} (hp : p.Fit) (hs : p.Shr) (H : AHeap) (N : Nat) : ACall Tryz.prog 12 [.agg p.cells] H N (fun r H' N' => N ≤ N' ∧ (∀ j, j < N → H' j = H j) ∧
    ((prgB p = false ∧ r = .tup [.sl .nil 0 [], i64 4]) ∨ (prgB p = true ∧ ∃ v es ar, r = .tup [v, i64 0] ∧ Arr H' N es v ar ∧ es.length = p.funs.length ∧ ∃ bd, BdOk bd es.length N N' ∧ Rows5B H' bd ar es (fun k s => IsSum (ownP p) (Rchd (ownP p) k) s)))) := by
  obtain ⟨_, ex⟩ : ∃ c, a_of_x = c := ⟨_, rfl⟩
  obtain ⟨_, ey⟩ : ∃ c, a_of_y = c := ⟨_, rfl⟩
  refine acallF mixed c_touch_Of (by simp) fun hF => ?_
  unfold a_touch_Of
  rw [ex, ey]
  have lp : ∀ X, aload X true 3 (.ip p.cells 0) = some (.agg p.cells) := fun X => rfl
  have hc3 : (AV.agg p.cells).cells = some p.cells := rfl
  simp [lp, aload_ip, -aload]
  refine (p_May hp).acall ?_
  cases hb : prgB p with
  | false =>
    simp
  | true =>
    simp
    refine of_x ex hs (bo := N) (by simp) (by simp) (by simp [AHeap.set]) (hF.set _) fun A1 H1 N1 vo es ar e1 e4 hN1 hF1 hold1 hbo1 hA1 hel1 hR1 => ?_
    simp
    refine of_yB ey hs (bo := N) (lo1 := N + 1) (by simp [e4]) (by simp) hbo1 hF1 hA1 hel1 hR1 (calls_in hb) fun A2 H2 N2 v es2 ar2 e7 hN2 hF2 hold2 hA2 hel2 hR2 => ?_
    obtain ⟨bd, hbd, hR2⟩ := hR2
    have hvc := hA2.cells
    simp [e7, hvc]
    refine ⟨by omega, fun j hj => ?_, es2, ar2, hA2.mono (by omega), hel2, bd, ⟨hbd.1, by have := hbd.2.1; omega, hbd.2.2⟩, hR2⟩
    rw [hold2 j (by omega), hold1 j (by omega) (by omega)]
    simp only [AHeap.set]
    rw [if_neg (by omega)]
end Go.Proofs.YtanpcmkhhpaeiaaGreatDoor
