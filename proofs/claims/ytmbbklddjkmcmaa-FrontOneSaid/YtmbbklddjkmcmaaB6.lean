/- dom: the law DomFewer. -/
import Derived.Test.YtmbbklddjkmcmaaB2
import Derived.Test.YtmbbklddjkmcmaaM5
namespace Go.Proofs.Ytmbbklddjkmcmaa
set_option linter.unusedSimpArgs false
set_option linter.unusedVariables false
open Go Go.Fw Go.Dm

/-- The rows, with a way less. -/
def rowF (f w : Nat) (g : List RowV) (i : Nat) : List Int := match g[i]? with
  | some r => if i = f then r.l.take w ++ r.l.drop (w + 1) else r.l
  | none => []
def rowFV (l : List Int) : RowV := match l with
  | [] => ⟨.exact, 1, []⟩
  | l => ⟨.any, 1, l⟩
theorem rowFV_l (l : List Int) : (rowFV l).l = l := by cases l <;> rfl
theorem rowFV_av (l : List Int) : (rowFV l).av = bsl (.sl .exact 1 []) 1 (intCells l) := by cases l <;> rfl
def fewG (f w : Nat) (g : List RowV) : List RowV := (List.range g.length).map fun i => rowFV (rowF f w g i)
theorem fewG_len {f w : Nat} {g : List RowV} : (fewG f w g).length = g.length := by simp [fewG]

theorem rowF_at {f w : Nat} {g : List RowV} {i : Nat} (hi : i < g.length) : rowF f w g i = if i = f then g[i].l.take w ++ g[i].l.drop (w + 1) else g[i].l := by
  unfold rowF
  rw [List.getElem?_eq_getElem hi]
theorem rowF_mem {f w : Nat} {g : List RowV} {i : Nat} {v : Int} (h : v ∈ rowF f w g i) : ∃ r, g[i]? = some r ∧ v ∈ r.l := by
  unfold rowF at h
  split at h
  · rename_i r hr
    refine ⟨r, hr, ?_⟩
    split at h
    · rcases List.mem_append.1 h with h | h
      · exact List.mem_of_mem_take h
      · exact List.mem_of_mem_drop h
    · exact h
  · simp at h
theorem few_edge {f w : Nat} {g : List RowV} {a c : Nat} (h : Edge (fewG f w g) a c) : Edge g a c := by
  obtain ⟨r, h1, h2⟩ := h
  unfold fewG at h1
  rw [List.getElem?_map, Option.map_eq_some_iff] at h1
  obtain ⟨i, h3, rfl⟩ := h1
  have hia : i = a := by
    have := (List.getElem?_eq_some_iff.1 h3)
    obtain ⟨h4, h5⟩ := this
    simp at h5; exact h5.symm
  subst hia
  rw [rowFV_l] at h2
  obtain ⟨r, h5, h6⟩ := rowF_mem h2
  exact ⟨r, h5, h6⟩

theorem few_row {f w : Nat} {g : List RowV} {i : Nat} (hi : i < g.length) : (rowF f w g i).length ≤ g[i].l.length := by
  rw [rowF_at hi]
  split
  · simp; omega
  · exact Nat.le_refl _

theorem edges_map {f : Nat → RowV} {g : List RowV} (h : ∀ (i : Nat) (hi : i < g.length), (f i).l.length ≤ g[i].l.length) : edges ((List.range g.length).map f) ≤ edges g := by
  have key : ∀ j, j ≤ g.length → edges ((List.range j).map f) ≤ edges (g.take j) := by
    intro j
    induction j with
    | zero => intro _; simp [edges]
    | succ j ih =>
      intro hj
      have h1 := ih (by omega)
      have h2 := h j (by omega)
      rw [List.range_succ, List.map_append, edges_take (by omega)]
      simp only [edges, List.map_append, List.sum_append, List.map_cons, List.map_nil, List.sum_cons, List.sum_nil] at h1 ⊢
      omega
  have := key g.length (Nat.le_refl _)
  rw [List.take_length] at this
  exact this

theorem few_ok (k : SK) {f w : Nat} {x : GraphV} (hs : Short x.g) : (⟨k, 1, fewG f w x.g⟩ : GraphV).Ok := by
  refine ⟨.inl rfl, ?_, fun r hr => ?_⟩
  · have := hs.n
    have hm : maxLen = 9223372036854775807 := rfl
    rw [fewG_len]; omega
  · simp only [fewG, List.mem_map, List.mem_range] at hr
    obtain ⟨i, hi, rfl⟩ := hr
    refine ⟨?_, ?_⟩
    · cases rowF f w x.g i <;> exact .inl rfl
    · rw [rowFV_l]
      have h1 := few_row (f := f) (w := w) hi
      have h2 := hs.row _ (List.getElem_mem hi)
      have hm : maxLen = 9223372036854775807 := rfl
      omega

theorem few_may {f w : Nat} {g : List RowV} (h : mayG g = true) : mayG (fewG f w g) = true := by
  simp only [mayG, Bool.and_eq_true, decide_eq_true_eq, Bool.not_eq_true', fewG_len] at h ⊢
  refine ⟨h.1, h.2.1, ?_⟩
  rw [List.any_eq_false] at h ⊢
  intro r hr
  simp only [fewG, List.mem_map, List.mem_range] at hr
  obtain ⟨i, hi, rfl⟩ := hr
  rw [rowFV_l]
  intro hany
  obtain ⟨v, hv, ho⟩ := List.any_eq_true.1 hany
  obtain ⟨r, h5, h6⟩ := rowF_mem hv
  exact h.2.2 r (List.mem_of_getElem? h5) (List.any_eq_true.2 ⟨v, h6, ho⟩)

theorem Rch.mono {E E' : Nat → Nat → Prop} (h : ∀ a c, E a c → E' a c) {b : Nat} (hb : Rch E b) : Rch E' b := by
  induction hb with
  | zero => exact .zero
  | step _ h2 ih => exact .step ih (h _ _ h2)
theorem Av.mono {E E' : Nat → Nat → Prop} (h : ∀ a c, E a c → E' a c) {b c : Nat} (hb : Av E c b) : Av E' c b := by
  induction hb with
  | zero hc => exact .zero hc
  | step _ h2 hne ih => exact .step ih (h _ _ h2) hne

section
variable {f w : Nat} {x : GraphV} {L L' : List Int} {bs bs' : List Nat} {A : Nat → AV} {H : AHeap} {N : Nat} {fs : List Fr} {Q : Post}

theorem few_rch (hT : TreeOk x.g L bs) (hU : TreeOk (fewG f w x.g) L' bs') {b : Int} (h : rchI bs' b = true) : rchI bs b = true := by
  rw [rch_iff hU] at h
  rw [rch_iff hT]
  exact ⟨h.1, Rch.mono (fun _ _ => few_edge) h.2⟩
theorem few_ab (hT : TreeOk x.g L bs) (hU : TreeOk (fewG f w x.g) L' bs') {a b : Int} (hb : rchI bs' b = true) (h : abI L bs a b = true) : abI L' bs' a b = true := by
  rw [rch_iff hU] at hb
  rw [ab_iff hT] at h
  rw [ab_iff hU]
  refine ⟨h.1, h.2.1, hb.2, ?_⟩
  rw [hU.sol.dom _ _ hb.2]
  intro hav
  exact (hT.sol.dom _ _ h.2.2.1).1 h.2.2.2 (Av.mono (fun _ _ => few_edge) hav)

/-- What both trees tell, over all. -/
structure FwI (x : GraphV) (tv tu : AV) (K k : Nat) (s : St) : Prop where
  ex : ∃ j : Nat, k = K - j ∧ j ≤ K ∧ s.A 0 = x.av ∧ s.A 7 = tv ∧ s.A 12 = tu ∧ s.A 13 = i64 j
structure FwJ (x : GraphV) (tv tu : AV) (b K k : Nat) (s : St) : Prop where
  ex : ∃ j : Nat, k = K - j ∧ j ≤ K ∧ s.A 0 = x.av ∧ s.A 7 = tv ∧ s.A 12 = tu ∧ s.A 13 = i64 b ∧ s.A 14 = i64 j

theorem fewer_in (hn : x.g.length ≤ 40) (hT : TreeOk x.g L bs) (hU : TreeOk (fewG f w x.g) L' bs') {b : Nat} (h0 : A 0 = x.av) (h7 : A 7 = treeV x.g.length L bs) (h12 : A 12 = treeV x.g.length L' bs') (h13 : A 13 = i64 b) (h14 : A 14 = i64 0)
    (hk : ∀ A' H' N', A' 0 = x.av → A' 7 = treeV x.g.length L bs → A' 12 = treeV x.g.length L' bs' → A' 13 = i64 b → onward Try.prog fs Q (.exit 4) ⟨A', H', N'⟩) :
    run Try.prog (.loop a_bobbinlaw12_DomFewerb1) fs Q ⟨A, H, N⟩ := by
  have hlen := x.len
  have hU' := hU
  refine run_loop (FwJ x (treeV x.g.length L bs) (treeV x.g.length L' bs') b x.g.length) x.g.length ?_ ?_
  · exact ⟨0, by omega, by omega, h0, h7, h12, h13, h14⟩
  · rintro k A1 H1 N1 ⟨j, rfl, hj, e0, e7, e12, e13, e14⟩
    simp only at e0 e7 e12 e13 e14
    by_cases hjl : j = x.g.length
    · subst hjl
      simp [a_bobbinlaw12_DomFewerb1, e0, e14, hlen, -alen]
      exact hk _ _ _ (by simp [e0]) (by simp [e7]) (by simp [e12]) (by simp [e13])
    · have hlt : j < x.g.length := by omega
      have wr : IntKind.i64.wrap ((j : Int) + 1) = ((j + 1 : Nat) : Int) := by rw [wrap_i64 (by omega) (by omega)]; rfl
      have pR := p_Reached hU b
      rw [fewG_len] at pR
      have pA := p_Above hU j b
      rw [fewG_len] at pA
      have fin : ∀ A' : Nat → AV, A' 0 = x.av → A' 7 = treeV x.g.length L bs → A' 12 = treeV x.g.length L' bs' → A' 13 = i64 b → A' 14 = i64 (j + 1 : Nat) → ∃ m, m < x.g.length - j ∧ FwJ x (treeV x.g.length L bs) (treeV x.g.length L' bs') b x.g.length m ⟨A', H1, N1⟩ := fun A' f0 f7 f12 f13 f14 =>
        ⟨x.g.length - (j + 1), by omega, ⟨j + 1, rfl, by omega, f0, f7, f12, f13, f14⟩⟩
      simp [a_bobbinlaw12_DomFewerb1, e0, e12, e13, e14, hlen, hlt, -alen]
      refine pR.acall ?_
      cases hb : rchI bs' b with
      | false =>
        simp [e14, wr]
        exact fin _ (by simp [e0]) (by simp [e7]) (by simp [e12]) (by simp [e13]) (by simp)
      | true =>
        simp [e7, e13, e14]
        refine (p_Above hT _ _).acall ?_
        cases hab : abI L bs j b with
        | false =>
          simp [e14, wr]
          exact fin _ (by simp [e0]) (by simp [e7]) (by simp [e12]) (by simp [e13]) (by simp)
        | true =>
          have hab' := few_ab hT hU hb hab
          simp [e12, e13, e14]
          refine pA.acall ?_
          simp [hab', e14, wr]
          exact fin _ (by simp [e0]) (by simp [e7]) (by simp [e12]) (by simp [e13]) (by simp)

theorem fewer_go (hn : x.g.length ≤ 40) (hT : TreeOk x.g L bs) (hU : TreeOk (fewG f w x.g) L' bs') (h0 : A 0 = x.av) (h7 : A 7 = treeV x.g.length L bs) (h12 : A 12 = treeV x.g.length L' bs') (h13 : A 13 = i64 0)
    (hk : ∀ A' H' N', onward Try.prog fs Q (.exit 2) ⟨A', H', N'⟩) :
    run Try.prog (.loop a_bobbinlaw12_DomFewerb2) fs Q ⟨A, H, N⟩ := by
  have hlen := x.len
  refine run_loop (FwI x (treeV x.g.length L bs) (treeV x.g.length L' bs') x.g.length) x.g.length ?_ ?_
  · exact ⟨0, by omega, by omega, h0, h7, h12, h13⟩
  · rintro k A1 H1 N1 ⟨j, rfl, hj, e0, e7, e12, e13⟩
    simp only at e0 e7 e12 e13
    by_cases hjl : j = x.g.length
    · subst hjl
      simp [a_bobbinlaw12_DomFewerb2, e0, e13, hlen, -alen]
      exact hk _ _ _
    · have hlt : j < x.g.length := by omega
      have wr : IntKind.i64.wrap ((j : Int) + 1) = ((j + 1 : Nat) : Int) := by rw [wrap_i64 (by omega) (by omega)]; rfl
      have pR := p_Reached hU j
      rw [fewG_len] at pR
      have go : ∀ (A2 : Nat → AV) (H2 : AHeap) (N2 : Nat) (fs' : List Fr) (Q' : Post), A2 0 = x.av → A2 7 = treeV x.g.length L bs → A2 12 = treeV x.g.length L' bs' → A2 13 = i64 j → A2 14 = i64 0 →
          (∀ A' H' N', A' 0 = x.av → A' 7 = treeV x.g.length L bs → A' 12 = treeV x.g.length L' bs' → A' 13 = i64 j → onward Try.prog fs' Q' (.exit 4) ⟨A', H', N'⟩) → run Try.prog (.loop a_bobbinlaw12_DomFewerb1) fs' Q' ⟨A2, H2, N2⟩ :=
        fun A2 H2 N2 fs' Q' k0 k7 k12 k13 k14 hk' => fewer_in hn hT hU k0 k7 k12 k13 k14 hk'
      have fin : ∀ (A' : Nat → AV) H' N', A' 0 = x.av → A' 7 = treeV x.g.length L bs → A' 12 = treeV x.g.length L' bs' → A' 13 = i64 (j + 1 : Nat) → ∃ m, m < x.g.length - j ∧ FwI x (treeV x.g.length L bs) (treeV x.g.length L' bs') x.g.length m ⟨A', H', N'⟩ := fun A' H' N' f0 f7 f12 f13 =>
        ⟨x.g.length - (j + 1), by omega, ⟨j + 1, rfl, by omega, f0, f7, f12, f13⟩⟩
      simp [a_bobbinlaw12_DomFewerb2, e0, e12, e13, hlen, hlt, -alen]
      refine pR.acall ?_
      cases hb : rchI bs' j with
      | false =>
        simp
        refine go _ _ _ _ _ ?_ ?_ ?_ ?_ ?_ ?_
        · simp [e0]
        · simp [e7]
        · simp [e12]
        · simp [e13]
        · simp
        intro A2 H2 N2 k0 k7 k12 k13
        simp [k13, wr]
        exact fin _ _ _ (by simp [k0]) (by simp [k7]) (by simp [k12]) (by simp)
      | true =>
        have hb2 := few_rch hT hU hb
        simp [e7, e13]
        refine (p_Reached hT _).acall ?_
        simp [hb2]
        refine go _ _ _ _ _ ?_ ?_ ?_ ?_ ?_ ?_
        · simp [e0]
        · simp [e7]
        · simp [e12]
        · simp [e13]
        · simp
        intro A2 H2 N2 k0 k7 k12 k13
        simp [k13, wr]
        exact fin _ _ _ (by simp [k0]) (by simp [k7]) (by simp [k12]) (by simp)

theorem row_take (r : RowV) (hr : r.Ok) {w : Nat} (hw : w < r.l.length) : aslice 1 r.av none (some (i64 w)) none = some (.sl (askind r.k false) r.z (intCells (r.l.take w))) := by
  have hz := hr.hz
  have hl : (intCells r.l).length = r.l.length := intCells_len _
  have hc : ((r.z = 1 ∨ intCells r.l = []) ∧ (0 : Int) ≤ 0 ∧ (0 : Int) ≤ (w : Int) ∧ (w : Int) ≤ ((intCells r.l).length : Int)) := ⟨hz.imp (fun h => h) (fun h => by rw [h]; rfl), by omega, by omega, by rw [hl]; omega⟩
  simp only [aslice, RowV.av, bnd]
  rw [if_pos hc]
  simp [intCells, List.map_take]
theorem row_drop (r : RowV) (hr : r.Ok) {w : Nat} (hw : w ≤ r.l.length) : aslice 1 r.av (some (i64 w)) none none = some (.sl (askind r.k false) r.z (intCells (r.l.drop w))) := by
  have hz := hr.hz
  have hl : (intCells r.l).length = r.l.length := intCells_len _
  have hc : ((r.z = 1 ∨ intCells r.l = []) ∧ (0 : Int) ≤ (w : Int) ∧ (w : Int) ≤ ((intCells r.l).length : Int) ∧ ((intCells r.l).length : Int) ≤ ((intCells r.l).length : Int)) := ⟨hz.imp (fun h => h) (fun h => by rw [h]; rfl), by omega, by rw [hl]; omega, by omega⟩
  simp only [aslice, RowV.av, bnd]
  rw [if_pos hc]
  congr 1
  congr 1
  rw [List.take_of_length_le (by simp)]
  simp [intCells, List.map_drop]
theorem src_row {k : SK} {z : Nat} {l : List Int} (h : z = 1 ∨ l = []) (H : AHeap) : asrc H 1 (.sl k z (intCells l)) = some ((intCells l).flatten, l.length) := by
  have : z = 1 ∨ intCells l = [] := h.imp (fun h => h) (fun h => by rw [h]; rfl)
  simp [asrc, this, intCells_len]

/-- While the graph with a way less is made. -/
structure LessI (x : GraphV) (f w : Nat) (tv : AV) (K k : Nat) (s : St) : Prop where
  ex : ∃ (j : Nat) (v : AV) (vs : List AV), k = K - j ∧ j ≤ K ∧ s.A 0 = x.av ∧ s.A 1 = i64 f ∧ s.A 2 = i64 w ∧ s.A 7 = tv ∧ s.A 9 = v ∧ s.A 10 = i64 j ∧ Fresh s.H s.N ∧ vs.length = j ∧ Built s.H 0 1 (.sl .nil 0 []) (vs.map fun a => [a]) v ∧
    ∀ (i : Nat) (a : AV), vs[i]? = some a → Built s.H 0 1 (.sl .exact 1 []) (intCells (rowF f w x.g i)) a

theorem fewer_make (hx : x.Ok) (hs : Short x.g) {v0 : AV} (hf : f < x.g.length) (hw : w < x.g[f].l.length) (h0 : A 0 = x.av) (h1 : A 1 = i64 f) (h2 : A 2 = i64 w) (h7 : A 7 = v0) (h9 : A 9 = .sl .nil 0 []) (h10 : A 10 = i64 0) (hF : Fresh H N)
    (hk : ∀ (A' : Nat → AV) (H' : AHeap) (N' : Nat) (v : AV) (vs : List AV), A' 0 = x.av → A' 7 = v0 → A' 9 = v → Fresh H' N' → vs.length = x.g.length → Built H' 0 1 (.sl .nil 0 []) (vs.map fun a => [a]) v → (∀ (i : Nat) (a : AV), vs[i]? = some a → Built H' 0 1 (.sl .exact 1 []) (intCells (rowF f w x.g i)) a) →
      onward Try.prog fs Q (.exit 0) ⟨A', H', N'⟩) :
    run Try.prog (.loop a_bobbinlaw12_DomFewerb3) fs Q ⟨A, H, N⟩ := by
  have hlen := x.len
  have hn := hs.n
  refine run_loop (LessI x f w v0 x.g.length) x.g.length ?_ ?_
  · exact ⟨0, .sl .nil 0 [], [], by omega, by omega, h0, h1, h2, h7, h9, h10, hF, rfl, Built.nil, by simp⟩
  · rintro k A1 H1 N1 ⟨j, v, vs, rfl, hj, e0, e1, e2, e7, e9, e10, hF1, hvl, hB, hrows⟩
    simp only at e0 e1 e2 e7 e9 e10 hF1 hB hrows
    by_cases hjl : j = x.g.length
    · subst hjl
      simp [a_bobbinlaw12_DomFewerb3, e0, e10, hlen, -alen]
      exact hk _ _ _ v vs (by simp [e0]) (by simp [e7]) (by simp [e9]) hF1 hvl hB hrows
    · have hlt : j < x.g.length := by omega
      have wr : IntKind.i64.wrap ((j : Int) + 1) = ((j + 1 : Nat) : Int) := by rw [wrap_i64 (by omega) (by omega)]; rfl
      have hr := hx.rows _ (List.getElem_mem hlt)
      have hrl := hs.row _ (List.getElem_mem hlt)
      have hq := row_at x hx hlt
      obtain ⟨l1, H2, N2, ha1, hB1, hold1, hN2, hF2⟩ := app_ints (lo := N1) (l := []) (z := .sl .exact 1 []) (v := .sl .exact 1 []) (H := H1) (ns := x.g[j].l) (y := x.g[j].av) Built.empty hF1 (Nat.le_refl _) (src_row hr.hz H1) (by simp; omega)
      rw [List.nil_append] at hB1
      -- the row is put behind the others
      have fin : ∀ (A2 : Nat → AV) (H3 : AHeap) (N3 : Nat) (a : AV), A2 0 = x.av → A2 1 = i64 f → A2 2 = i64 w → A2 7 = v0 → A2 9 = v → A2 10 = i64 j → Fresh H3 N3 → (∀ i, i < N1 → H3 i = H1 i) → N1 ≤ N3 → Built H3 N1 1 (.sl .exact 1 []) (intCells (rowF f w x.g j)) a →
          ∃ v' H4, aappend false 1 24 H3 N3 v (.sl .exact 1 [[a]]) = some (v', H4, N3 + 1) ∧ ∀ A' : Nat → AV, A' 0 = x.av → A' 1 = i64 f → A' 2 = i64 w → A' 7 = v0 → A' 9 = v' → A' 10 = i64 (j + 1 : Nat) → ∃ m, m < x.g.length - j ∧ LessI x f w v0 x.g.length m ⟨A', H4, N3 + 1⟩ := by
        intro A2 H3 N3 a k0 k1 k2 k7 k9 k10 hF3 hold hN3 hBa
        have hB3 := built_later hB hF1 hold
        have hrows3 : ∀ (i : Nat) (b : AV), (vs ++ [a])[i]? = some b → Built H3 0 1 (.sl .exact 1 []) (intCells (rowF f w x.g i)) b := fun i b hb => by
          by_cases hi : i < vs.length
          · rw [List.getElem?_append_left hi] at hb
            exact built_later (hrows i b hb) hF1 hold
          · have hib := (List.getElem?_eq_some_iff.1 hb).1
            simp at hib
            have : i = vs.length := by omega
            subst this
            simp at hb
            subst hb
            rw [hvl]
            exact Built.lower hBa (Nat.zero_le _)
        obtain ⟨H4, happ, hN4, hold4, hF4, hB4⟩ := push_raw (bytes := 24) (k := .exact) (x := [a]) hB3 hF3 (Nat.zero_le _) rfl (by simp [hvl]; unfold lim; omega) (by simp [hvl]; omega)
        refine ⟨_, H4, happ, fun A' f0 f1 f2 f7 f9 f10 => ⟨x.g.length - (j + 1), by omega, ⟨j + 1, _, vs ++ [a], rfl, by omega, f0, f1, f2, f7, f9, f10, hF4, by simp [hvl], by simpa using hB4, fun i b hb => ?_⟩⟩⟩
        obtain ⟨b1, b2⟩ := hrows3 i b hb
        refine ⟨b1, b2.imp (fun h => h) ?_⟩
        rintro ⟨hne, id, hid, rfl, hH⟩
        refine ⟨hne, id, hid, rfl, ?_⟩
        show H4 id = _
        rw [hold4 id (by have := hF3.lt hH; omega) fun n he => ?_]
        · exact hH
        · obtain ⟨_, ⟨_, h3, _⟩ | ⟨hne2, i3, _, h3, h4⟩⟩ := hB3
          · rw [he] at h3; cases h3
          · rw [he] at h3; cases h3
            rw [hH] at h4
            have h5 : (intCells (rowF f w x.g i)).flatten = (vs.map fun a => [a]).flatten := by
              have := Option.some.inj h4
              exact AObj.blk.inj this
            rw [intCells_flat] at h5
            cases vs with
            | nil => exact hne2 rfl
            | cons c vs =>
              have h6 := hrows3 0 c rfl
              cases hrow : rowF f w x.g i with
              | nil => rw [hrow] at hne; exact hne rfl
              | cons y ys =>
                rw [hrow] at h5
                simp at h5
                obtain ⟨_, ⟨_, h7, _⟩ | ⟨_, _, _, h7, _⟩⟩ := h6
                · rw [h7] at h5; cases h5.1
                · rw [h7] at h5; cases h5.1
      by_cases hjf : j = f
      · have hjf' : f = j := hjf.symm
        subst hjf'
        have hrow : rowF f w x.g f = x.g[f].l.take w ++ x.g[f].l.drop (w + 1) := by rw [rowF_at hlt, if_pos rfl]
        have s1 := row_take _ hr hw
        have s2 := row_drop _ hr (w := w + 1) (by omega)
        have ww : IntKind.i64.wrap ((w : Int) + 1) = (w : Int) + 1 := wrap_i64 (by omega) (by omega)
        obtain ⟨l2, H3, N3, ha2, hB2, hold2, hN3, hF3⟩ := app_ints (lo := N2) (l := []) (z := .sl .exact 1 []) (v := .sl .exact 1 []) (H := H2) (ns := x.g[f].l.take w) (y := .sl (askind x.g[f].k false) x.g[f].z (intCells (x.g[f].l.take w))) Built.empty hF2 (Nat.le_refl _) (src_row (hr.hz.imp (fun h => h) (fun h => by rw [h]; simp)) H2) (by simp; omega)
        rw [List.nil_append] at hB2
        obtain ⟨l3, H4, N4, ha3, hB3, hold3, hN4, hF4⟩ := app_ints (ns := x.g[f].l.drop (w + 1)) (y := .sl (askind x.g[f].k false) x.g[f].z (intCells (x.g[f].l.drop (w + 1)))) hB2 hF3 hN3 (src_row (hr.hz.imp (fun h => h) (fun h => by rw [h]; simp)) H3) (by simp; omega)
        rw [← hrow] at hB3
        have s2' : aslice 1 x.g[f].av (some (i64 ((w : Int) + 1))) none none = some (.sl (askind x.g[f].k false) x.g[f].z (intCells (x.g[f].l.drop (w + 1)))) := s2
        obtain ⟨v', H5, h5, hfin⟩ := fin A1 H4 N4 l3 e0 e1 e2 e7 e9 e10 hF4 (fun i hi => by rw [hold3 i (by omega), hold2 i (by omega), hold1 i hi]) (by omega) (Built.lower hB3 hN2)
        simp [a_bobbinlaw12_DomFewerb3, e0, e1, e2, e9, e10, hlen, hlt, hq, ha1, aload_ip, s1, s2', ww, ha2, ha3, hB3.rd.cells, h5, wr, -alen, -AV.cells]
        refine hfin _ ?_ ?_ ?_ ?_ ?_ ?_ <;> simp [e0, e1, e2, e7]
      · have hrow : rowF f w x.g j = x.g[j].l := by rw [rowF_at hlt, if_neg hjf]
        rw [← hrow] at hB1
        obtain ⟨v', H5, h5, hfin⟩ := fin A1 H2 N2 l1 e0 e1 e2 e7 e9 e10 hF2 hold1 hN2 hB1
        simp [a_bobbinlaw12_DomFewerb3, e0, e1, e2, e9, e10, hlen, hlt, hq, ha1, hjf, show ¬ (j : Int) = f by omega, hB1.rd.cells, h5, wr, -alen, -AV.cells]
        refine hfin _ ?_ ?_ ?_ ?_ ?_ ?_ <;> simp [e0, e1, e2, e7]

theorem flat_one : ∀ vs : List AV, (vs.map fun a => [a]).flatten = vs
  | [] => rfl
  | a :: vs => by rw [List.map_cons, List.flatten_cons, flat_one vs]; rfl

theorem p_DomFewer (x : GraphV) (hx : x.Ok) (f w : Int) (H : AHeap) (N : Nat) : ACall Try.prog 6 [x.av, i64 f, i64 w] H N (fun r _ _ => r = bl true) := by
  refine acallF mixed c_bobbinlaw12_DomFewer (by simp) fun hF => ?_
  have hlen := x.len
  simp [a_bobbinlaw12_DomFewer]
  refine (p_long x hx _ _).mono ?_
  rintro r H1 N1 ⟨rfl, rfl, lb, rfl, hsh⟩
  cases lb with
  | true =>
    simp
    exact p_awake.acall rfl
  | false =>
    have hs := hsh rfl
    have hn := hs.n
    simp
    refine p_awake.acall ?_
    simp
    refine (p_Of x hx (by have := hs.e; omega)).acall ?_
    intro r hr
    by_cases hm : mayG x.g = true
    · rw [if_pos hm] at hr
      obtain ⟨L, bs, hT, rfl⟩ := hr
      by_cases hf0 : f < 0
      · simp [hf0]
      · by_cases hfn : (x.g.length : Int) ≤ f
        · simp [hf0, hfn, hlen, -alen]
        · obtain ⟨fn, rfl⟩ : ∃ fn : Nat, f = fn := ⟨f.toNat, by omega⟩
          have hfl : fn < x.g.length := by omega
          have hq := row_at x hx hfl
          have hr := hx.rows _ (List.getElem_mem hfl)
          have hrl := row_alen _ hr
          by_cases hw0 : w < 0
          · simp [hf0, hfn, hw0, hlen, show ¬ x.g.length ≤ fn by omega, -alen]
          · by_cases hwn : (x.g[fn].l.length : Int) ≤ w
            · simp [hf0, hfn, hw0, hwn, hlen, show ¬ x.g.length ≤ fn by omega, hq, hrl, -alen]
            · obtain ⟨wn, rfl⟩ : ∃ wn : Nat, w = wn := ⟨w.toNat, by omega⟩
              have hwl : wn < x.g[fn].l.length := by omega
              simp [hf0, hfn, hw0, hwn, hlen, show ¬ x.g.length ≤ fn by omega, show ¬ x.g[fn].l.length ≤ wn by omega, hq, hrl, -alen]
              refine fewer_make (x := x) (f := fn) (w := wn) (v0 := treeV x.g.length L bs) hx hs hfl hwl ?_ ?_ ?_ ?_ ?_ ?_ hF ?_
              · simp
              · simp
              · simp
              · simp
              · simp
              · simp
              intro A2 H2 N2 v vs k0 k7 k9 hF2 hvl hB hrows
              have hgl : 0 < x.g.length := by omega
              have hfm := few_may (f := fn) (w := wn) hm
              have hOf := p_Of ⟨.any, 1, fewG fn wn x.g⟩ (few_ok .any hs) (by
                have := edges_map (f := fun i => rowFV (rowF fn wn x.g i)) (g := x.g) (fun i hi => by rw [rowFV_l]; exact few_row hi)
                have h2 := hs.e
                show edges (fewG fn wn x.g) ≤ _
                unfold fewG
                omega)
              have hview : View H2 v (GraphV.av ⟨.any, 1, fewG fn wn x.g⟩) := by
                obtain ⟨_, ⟨h1, _⟩ | ⟨_, id, _, rfl, hid⟩⟩ := hB
                · cases vs with
                  | nil => simp at hvl; omega
                  | cons a vs => cases h1
                · have hfl2 := flat_one vs
                  rw [hfl2] at hid
                  have hvl2 : ViewL H2 vs ((fewG fn wn x.g).map RowV.av) := by
                    refine ⟨by simp [fewG_len, hvl], fun i c d hc hd => ?_⟩
                    rw [List.getElem?_map, Option.map_eq_some_iff] at hd
                    obtain ⟨r, hr1, rfl⟩ := hd
                    have hri : r = rowFV (rowF fn wn x.g i) := by
                      unfold fewG at hr1
                      rw [List.getElem?_map, Option.map_eq_some_iff] at hr1
                      obtain ⟨j, h3, rfl⟩ := hr1
                      have := (List.getElem?_eq_some_iff.1 h3)
                      obtain ⟨h4, h5⟩ := this
                      simp at h5; rw [← h5]
                    rw [hri, rowFV_av]
                    exact (hrows i c hc).view (intCells_free _)
                  have hv := View.ms' (H := H2) (sz := 1) (len := x.g.length) hid (by omega) hvl2
                  have hch : chunks 1 x.g.length ((fewG fn wn x.g).map RowV.av) = gCells (fewG fn wn x.g) := by
                    have := Go.Fw.chunks_flatten (sz := 1) (es := gCells (fewG fn wn x.g)) (gCells_sz _)
                    rw [gCells_len, fewG_len] at this
                    rw [← this]
                    congr 1
                    have : ∀ l : List RowV, l.map RowV.av = (gCells l).flatten := fun l => by
                      induction l with
                      | nil => rfl
                      | cons a l ih => simp only [gCells, List.map_cons, List.flatten_cons] at ih ⊢; rw [ih]; rfl
                    exact this _
                  rw [hch] at hv
                  rw [List.length_map, hvl]
                  exact hv
              simp [k9]
              refine (ACall.still (args := [v]) (args' := [GraphV.av ⟨.any, 1, fewG fn wn x.g⟩]) (hOf.acall (Q := fun r _ _ => ∃ L' bs', TreeOk (fewG fn wn x.g) L' bs' ∧ r = .tup [treeV (fewG fn wn x.g).length L' bs', i64 0]) (fun r hr => by simpa [hfm] using hr)) rfl ?_).mono ?_
              · intro i a b ha hb
                cases i with
                | zero => simp at ha hb; subst ha; subst hb; exact .inr hview
                | succ i => simp at ha
              rintro r H3 N3 ⟨L', bs', hU, rfl⟩
              rw [fewG_len]
              simp
              refine fewer_go (x := x) (f := fn) (w := wn) hn hT hU ?_ ?_ ?_ ?_ ?_
              · simp [k0]
              · simp [k7]
              · simp
              · simp
              intro A4 H4 N4
              simp
    · rw [if_neg hm] at hr
      subst hr
      simp

end
end Go.Proofs.Ytmbbklddjkmcmaa
