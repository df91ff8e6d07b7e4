/- tree: place: statements that stand elsewhere, by the program. -/
import Derived.Test.YtebopfpgicamiaaDoorWR
namespace Go.Proofs.YtebopfpgicamiaaDoor
set_option linter.unusedSimpArgs false
set_option linter.unusedVariables false
open Go Go.Fw
theorem viewL_app {H : AHeap} : ∀ {a b c d : List AV}, ViewL H a b → ViewL H c d → ViewL H (a ++ c) (b ++ d)
  | [], [], _, _, _, h => h
  | [], _ :: _, _, _, h, _ => by have := h.1; simp at this
  | _ :: _, [], _, _, h, _ => by have := h.1; simp at this
  | x :: a, y :: b, c, d, h, k => .cons (h.2 0 x y rfl rfl) (viewL_app ⟨by have := h.1; simpa using this, fun i c d hc hd => h.2 (i + 1) c d (by simpa using hc) (by simpa using hd)⟩ k)
theorem viewL_flat {H : AHeap} : ∀ {es ds : List (List AV)}, es.length = ds.length → (∀ (i : Nat) (x y : List AV), es[i]? = some x → ds[i]? = some y → ViewL H x y) → ViewL H es.flatten ds.flatten
  | [], [], _, _ => .nil
  | [], _ :: _, h, _ => by simp at h
  | _ :: _, [], h, _ => by simp at h
  | x :: es, y :: ds, h, k => viewL_app (k 0 x y rfl rfl) (viewL_flat (by simpa using h) fun i a b ha hb => k (i + 1) a b (by simpa using ha) (by simpa using hb))

/-- A statement's cells, with what its expressions are. -/
def rowV (p : Int) (s : StmtV) (v : AV) : List AV := [u8 s.kind, str s.name, str s.to, bl s.new, v, .sl (plK s.body) 8 (stmtCells (plSs p s.body)), .sl (plK s.els) 8 (stmtCells (plSs p s.els)), i64 p]
/-- Expressions that were built, apart from the statements' own memory. -/
def EB (H : AHeap) (o v : AV) (ns : List (List AV)) : Prop := (ns = [] ∧ v = .sl .nil 0 []) ∨ (ns ≠ [] ∧ ∃ id, v = .ms id 0 ns.length 5 ∧ H id = some (.blk ns.flatten) ∧ ∀ n, o ≠ .ms id 0 n 8)
structure Rows8 (H : AHeap) (p : Int) (l : List StmtV) (i : Nat) (es : List (List AV)) (o : AV) : Prop where
  built : Built H 0 8 (.sl .nil 0 []) es o
  len : es.length = i
  row : ∀ (j : Nat) (x : List AV), es[j]? = some x → ∃ s v, l[j]? = some s ∧ x = rowV p s v ∧ EB H o v (exprCells (plEs p s.e))
theorem Rows8.start (H : AHeap) (p : Int) (l : List StmtV) : Rows8 H p l 0 [] (.sl .nil 0 []) := ⟨Built.nil, rfl, fun j x h => by simp at h⟩
theorem EB.view {H : AHeap} {o v : AV} {l : List ExprV} (h : EB H o v (exprCells l)) : View H v (bsl (.sl .nil 0 []) 5 (exprCells l)) := by
  rcases h with ⟨h1, rfl⟩ | ⟨h1, id, rfl, h2, _⟩
  · rw [h1]; exact .free rfl
  · have hb : bsl (.sl .nil 0 []) 5 (exprCells l) = .sl .any 5 (exprCells l) := by
      cases l with
      | nil => exact absurd rfl h1
      | cons x l => rfl
    rw [hb]
    exact view_flat (exprCells_sz l) (exprCells_free l) rfl h2
theorem Rows8.view {H : AHeap} {p : Int} {l : List StmtV} {es : List (List AV)} {o : AV} (h : Rows8 H p l l.length es o) :
    View H o (bsl (.sl .nil 0 []) 8 (l.map fun s => rowV p s (bsl (.sl .nil 0 []) 5 (exprCells (plEs p s.e))))) := by
  obtain ⟨⟨hs, hv⟩, hl, hr⟩ := h
  obtain ⟨ds, hds⟩ : ∃ ds, (l.map fun s => rowV p s (bsl (.sl .nil 0 []) 5 (exprCells (plEs p s.e)))) = ds := ⟨_, rfl⟩
  have hdl : ds.length = l.length := by rw [← hds, List.length_map]
  have hd8 : ∀ x ∈ ds, x.length = 8 := fun x hx => by
    rw [← hds, List.mem_map] at hx
    obtain ⟨s, _, rfl⟩ := hx
    rfl
  rcases hv with ⟨rfl, rfl, _⟩ | ⟨hne, id, _, rfl, h2⟩
  · have : l = [] := List.eq_nil_of_length_eq_zero hl.symm
    subst this
    exact .free rfl
  · have hvl : ViewL H es.flatten ds.flatten := viewL_flat (by omega) fun i x y hx hy => by
      obtain ⟨s, v, h1, rfl, h3⟩ := hr i x hx
      rw [← hds, List.getElem?_map, h1] at hy
      cases hy
      exact .cons (.free rfl) (.cons (.free rfl) (.cons (.free rfl) (.cons (.free rfl) (.cons h3.view (.cons (.free (by simp [AV.free, stmtCells_free])) (.cons (.free (by simp [AV.free, stmtCells_free])) (.cons (.free rfl) .nil)))))))
    have hb : bsl (.sl .nil 0 []) 8 ds = .sl .any 8 ds := by
      cases ds with
      | nil => exact absurd (List.eq_nil_of_length_eq_zero (by rw [hl, ← hdl]; rfl)) hne
      | cons x l => rfl
    rw [hds, hb]
    have := View.ms' (H := H) (sz := 8) (len := es.length) h2 (by rw [flatten_len hs]; exact Nat.le_refl _) hvl
    rw [show es.length = ds.length by omega, Go.Fw.chunks_flatten hd8] at this
    rw [show es.length = ds.length by omega]
    exact this
theorem bslS_norm (p : Int) (l : List StmtV) : (bsl (.sl .nil 0 []) 8 (l.map fun s => rowV p s (bsl (.sl .nil 0 []) 5 (exprCells (plEs p s.e))))).norm = (AV.sl (plK l) 8 (stmtCells (plSs p l))).norm := by
  have h1 : ∀ s : StmtV, normL (rowV p s (bsl (.sl .nil 0 []) 5 (exprCells (plEs p s.e)))) = normL (plS p s).cells := fun s => by
    have h5 : ∀ a b : AV, a.norm = b.norm → normL (rowV p s a) = normL (rowV p s b) := fun a b h => by
      show [_, _, _, _, a.norm, _, _, _] = [_, _, _, _, b.norm, _, _, _]
      rw [h]
    rw [plS_eq]
    exact h5 _ _ (bslE_norm p s.e)
  have h2 : ∀ l : List StmtV, normLL (l.map fun s => rowV p s (bsl (.sl .nil 0 []) 5 (exprCells (plEs p s.e)))) = normLL (stmtCells (plSs p l)) := fun l => by
    rw [normLL_map, normLL_map, stmtCells_map, plSs_map, List.map_map, List.map_map, List.map_map]
    exact List.map_congr_left fun s _ => h1 s
  cases l with
  | nil => rfl
  | cons x l =>
    show AV.sl .any 8 _ = AV.sl .any 8 _
    have := h2 (x :: l)
    congr 1
/-- One statement more. -/
theorem Rows8.more {H1 H H' : AHeap} {p : Int} {l : List StmtV} {i N1 N : Nat} {es : List (List AV)} {o v : AV} {s : StmtV} (h : Rows8 H1 p l i es o) (hF1 : Fresh H1 N1) (hs : l[i]? = some s) (hold : ∀ j, j < N1 → H j = H1 j) (hN : N1 ≤ N) (hF : Fresh H N)
    (hE : Built H (N1 + 1) 5 (.sl .nil 0 []) (exprCells (plEs p s.e)) v) (hB : Built H' 0 8 (.sl .nil 0 []) (es ++ [rowV p s v]) (.ms N 0 (es.length + 1) 8)) (hk : ∀ j, j ≠ N → (∀ n, o ≠ .ms j 0 n 8) → H' j = H j) :
    Rows8 H' p l (i + 1) (es ++ [rowV p s v]) (.ms N 0 (es.length + 1) 8) := by
  have hoid : ∀ id n, o = .ms id 0 n 8 → id < N1 := fun id n ho => by
    obtain ⟨_, ⟨_, hz, _⟩ | ⟨_, id', _, hz, h2⟩⟩ := h.built
    · rw [hz] at ho; cases ho
    · rw [hz] at ho; cases ho; exact hF1.lt h2
  refine ⟨hB, by simp [h.len], fun j x hx => ?_⟩
  by_cases hj : j < es.length
  · rw [List.getElem?_append_left hj] at hx
    obtain ⟨s', v', h1, h2, h3⟩ := h.row j x hx
    refine ⟨s', v', h1, h2, h3.imp id ?_⟩
    rintro ⟨hne, id, hv, hid, ho⟩
    have hlt := hF1.lt hid
    refine ⟨hne, id, hv, ?_, fun n hn => ?_⟩
    · rw [hk id (by omega) ho, hold id hlt, hid]
    · cases hn; omega
  · rw [List.getElem?_append_right (by omega)] at hx
    have hj0 : j - es.length = 0 := by
      have := (List.getElem?_eq_some_iff.1 hx).1
      simp at this; omega
    rw [hj0] at hx
    cases hx
    have hji : j = i := by have := h.len; omega
    refine ⟨s, v, hji ▸ hs, rfl, ?_⟩
    obtain ⟨_, ⟨h1, h2, _⟩ | ⟨h1, id, hid, h2, h3⟩⟩ := hE
    · exact .inl ⟨h1, h2⟩
    · have hlt := hF.lt h3
      refine .inr ⟨h1, id, h2, ?_, fun n hn => ?_⟩
      · rw [hk id (by omega) fun n hn => by have := hoid _ _ hn; omega, h3]
      · cases hn; omega

theorem place_e {A : Nat → AV} {H : AHeap} {N o : Nat} {fs : List Fr} {Q : Post} {p : Int} {k : SK} {l : List StmtV} {x : StmtV} {j : Nat} {b1 b2 : AV} (hx : l[j]? = some x) (hsz : x.sz ≤ 10000000)
    (h0 : A 0 = .sl k 8 (stmtCells l)) (h1 : A 1 = i64 p) (h6 : A 6 = i64 j) (h7 : A 7 = .mp o 0) (ho : H o = some (.blk [u8 x.kind, str x.name, str x.to, bl x.new, .sl .nil 0 [], b1, b2, i64 p])) (hF : Fresh H N) (hoN : o + 1 ≤ N)
    (hk : ∀ A' H' N' v, (∀ t ∈ [0, 1, 5, 6, 7], A' t = A t) → H' o = some (.blk [u8 x.kind, str x.name, str x.to, bl x.new, v, b1, b2, i64 p]) → Built H' (o + 1) 5 (.sl .nil 0 []) (exprCells (plEs p x.e)) v → (∀ i, i < o → H' i = H i) → N ≤ N' → Fresh H' N' → onward Tryd.prog fs Q .normal ⟨A', H', N'⟩) :
    run Tryd.prog (.seq (.ops [⟨some 8, .val (.val (.lit (.int .i64 0))), none⟩]) (.block 2 (.loop a_bobbinlaw02_placeb1))) fs Q ⟨A, H, N⟩ := by
  have hse := x.sz_eq
  have hle := exprSz_len x.e
  have hjl := (List.getElem?_eq_some_iff.1 hx).1
  have hq : aindex 8 (.sl k 8 (stmtCells l)) (i64 (j : Nat)) = some (.ip x.cells 0) := aindex_sl (by omega) (by simpa using stmtCells_at hx)
  rw [x.cells_eq] at hq
  simp
  refine run_loop (fun m s => ∃ (i : Nat) (v : AV), i ≤ x.e.length ∧ m = x.e.length - i ∧ (∀ t ∈ [0, 1, 5, 6, 7], s.A t = A t) ∧ s.A 8 = i64 i ∧ s.H o = some (.blk [u8 x.kind, str x.name, str x.to, bl x.new, v, b1, b2, i64 p]) ∧ Built s.H (o + 1) 5 (.sl .nil 0 []) (exprCells (plEs p (x.e.take i))) v ∧ (∀ i, i < o → s.H i = H i) ∧ N ≤ s.N ∧ Fresh s.H s.N) x.e.length ?_ ?_
  · exact ⟨0, .sl .nil 0 [], by omega, by omega, by simp, by simp, ho, Built.nil, fun _ _ => rfl, Nat.le_refl _, hF⟩
  · rintro m A1 H1 N1 ⟨i, v, hi, rfl, hA, e8, g7, hB, hold, hNN, hF1⟩
    simp only at hA e8 g7 hB hold hNN hF1
    have e0 := (hA 0 (by simp)).trans h0
    have e1 := (hA 1 (by simp)).trans h1
    have e6 := (hA 6 (by simp)).trans h6
    have e7 := (hA 7 (by simp)).trans h7
    have hc := hB.rd.cells
    by_cases hil : i < x.e.length
    · have m1 : (i : Int) < x.e.length := by omega
      obtain ⟨y, hy⟩ : ∃ y, x.e[i]? = some y := ⟨x.e[i], List.getElem?_eq_getElem hil⟩
      have hym := List.mem_of_getElem? hy
      have hys := exprSz_mem hym
      have hr : aindex 5 (.sl x.ke 5 (exprCells x.e)) (i64 (i : Nat)) = some (.ip y.cells 0) := aindex_sl (by omega) (by simpa using exprCells_at hy)
      have hyl : y.cells.length = 5 := by rw [y.cells_eq]; rfl
      have hw : IntKind.i64.wrap ((i : Int) + 1) = ((i + 1 : Nat) : Int) := by rw [wrap_i64 (by omega) (by omega)]; rfl
      have hplc := (plE p y).cells_eq
      have htk := plEs_take (p := p) hy
      obtain ⟨v', H', N', happ, hB', hold', hNle, hF'⟩ := hB.push (bytes := 64) (k := .exact) (x := (plE p y).cells) hF1 (by omega) (by rw [hplc]; rfl) (by rw [exprCells_len, plEs_len, List.length_take]; simp only [lim]; omega) (by rw [exprCells_len, plEs_len, List.length_take]; omega)
      have hc' := hB'.rd.cells
      have g1 := (hold' o (by omega)).trans g7
      rw [hplc] at happ
      simp [a_bobbinlaw02_placeb1, e0, e1, e6, e7, e8, hq, exprCells_len, m1, hr, hyl, take_len hyl, g7]
      refine ⟨_, p_placed p y (by omega), ?_⟩
      rw [hplc]
      simp [splice, happ, hc', e0, e1, e6, e7, e8, g1, hw, -AV.cells, AV.cells_agg]
      refine ⟨x.e.length - (i + 1), by omega, i + 1, by omega, rfl, ?_, rfl, ?_, ?_, by omega, fresh_rewr hF' g1⟩
      · exact ⟨h0.symm, h1.symm, hA 5 (by simp), h6.symm, h7.symm⟩
      · rw [htk]
        exact hB'.keep fun j hj => by simp only [AHeap.set]; rw [if_neg (by omega)]
      · intro i' hi'
        rw [if_neg (by omega), hold' i' (by omega), hold i' hi']
    · have m1 : ¬ (i : Int) < x.e.length := by omega
      have hie : i = x.e.length := by omega
      subst hie
      rw [List.take_length] at hB
      simp [a_bobbinlaw02_placeb1, e0, e1, e6, e7, e8, hq, exprCells_len]
      refine hk _ H1 N1 v ?_ g7 hB hold hNN hF1
      simp [e0, e1, e6, e7, h0, h1, h6, h7]
      exact hA 5 (by simp)
theorem built_le {H H' : AHeap} {lo sz : Nat} {z : AV} {es : List (List AV)} {v : AV} (h : Built H lo sz z es v) (hk : ∀ id ob, H id = some ob → H' id = some ob) : Built H' lo sz z es v := by
  obtain ⟨b1, b2⟩ := h
  refine ⟨b1, b2.imp id ?_⟩
  rintro ⟨hne, id, hid, rfl, hH⟩
  exact ⟨hne, id, hid, rfl, hk id _ hH⟩
theorem p_place (p : Int) : ∀ (z : Nat) (l : List StmtV), stmtSz l = z → stmtSz l ≤ 10000000 → ∀ k, PCall Tryd.prog 27 [.sl k 8 (stmtCells l), i64 p] (.sl (plK l) 8 (stmtCells (plSs p l))) := by
  intro z
  induction z using Nat.strongRecOn with
  | _ z ih =>
    intro l hz hsz k
    have hll := stmtSz_len l
    obtain ⟨ck, ek⟩ : ∃ c, a_place_kids = c := ⟨_, rfl⟩
    obtain ⟨ce, ee⟩ : ∃ c, (.seq (.ops [⟨some 8, .val (.val (.lit (.int .i64 0))), none⟩]) (.block 2 (.loop a_bobbinlaw02_placeb1)) : ACode) = c := ⟨_, rfl⟩
    refine PCall.nrmR (PCall.of fun N => acallF mixed c_bobbinlaw02_place (by simp) fun hF => ?_) (bslS_norm p l)
    simp [a_bobbinlaw02_place]
    refine run_loop (fun m s => ∃ (i : Nat) (es : List (List AV)) (o : AV), i ≤ l.length ∧ m = l.length - i ∧ s.A 0 = .sl k 8 (stmtCells l) ∧ s.A 1 = i64 p ∧ s.A 5 = o ∧ s.A 6 = i64 i ∧ Rows8 s.H p l i es o ∧ Fresh s.H s.N) l.length ?_ ?_
    · exact ⟨0, [], .sl .nil 0 [], by omega, by omega, by simp, by simp, by simp, by simp, Rows8.start _ _ _, hF⟩
    · rintro m A1 H1 N1 ⟨i, es, o, hi, rfl, e0, e1, e5, e6, hR, hF1⟩
      simp only at e0 e1 e5 e6 hR hF1
      have hco := hR.built.rd.cells
      unfold a_bobbinlaw02_placeb2
      rw [ek, ee]
      by_cases hil : i < l.length
      · have n1 : (i : Int) < l.length := by omega
        obtain ⟨x, hx⟩ : ∃ x, l[i]? = some x := ⟨l[i], List.getElem?_eq_getElem hil⟩
        have hxm := List.mem_of_getElem? hx
        have hxs := stmtSz_mem hxm
        have hse := x.sz_eq
        have hq : aindex 8 (.sl k 8 (stmtCells l)) (i64 (i : Nat)) = some (.ip x.cells 0) := aindex_sl (by omega) (by simpa using stmtCells_at hx)
        rw [x.cells_eq] at hq
        have hw : IntKind.i64.wrap ((i : Int) + 1) = ((i + 1 : Nat) : Int) := by rw [wrap_i64 (by omega) (by omega)]; rfl
        simp [e0, e1, e6, stmtCells_len, n1, hq, splice, AHeap.set]
        rw [← ee]
        refine place_e (p := p) (k := k) (l := l) (x := x) (j := i) (o := N1) (b1 := .sl x.kb 8 (stmtCells x.body)) (b2 := .sl x.kl 8 (stmtCells x.els)) hx (by omega) (by simp [e0]) (by simp [e1]) (by simp [e6]) (by simp) (by simp) (hF1.set _) (Nat.le_refl _) fun A2 H2 N2 v hA g7 hB hold hNN hF2 => ?_
        have hold1 : ∀ j, j < N1 → H2 j = H1 j := fun j hj => by
          rw [hold j hj]; simp only [AHeap.set]; rw [if_neg (by omega)]
        have c0 := (hA 0 (by simp)).trans (show _ = AV.sl k 8 (stmtCells l) by simp [e0])
        have c1 := (hA 1 (by simp)).trans (show _ = i64 p by simp [e1])
        have c5 := (hA 5 (by simp)).trans (show _ = o by simp [e5])
        have c6 := (hA 6 (by simp)).trans (show _ = i64 i by simp [e6])
        have c7 := (hA 7 (by simp)).trans (show _ = AV.mp N1 0 by simp)
        have hcv := hB.rd.cells
        obtain ⟨H5, h5⟩ : ∃ H5, H2.set N1 (.blk (rowV p x v)) = H5 := ⟨_, rfl⟩
        have hold5 : ∀ j, j < N1 → H5 j = H1 j := fun j hj => by
          rw [← h5]; simp only [AHeap.set]; rw [if_neg (by omega), hold1 j hj]
        have hF5 : Fresh H5 N2 := h5 ▸ fresh_rewr hF2 g7
        have hB5 := hB.keep (H' := H5) fun j hj => by rw [← h5]; simp only [AHeap.set]; rw [if_neg (by omega)]
        have hR5 : Built H5 0 8 (.sl .nil 0 []) es o := built_le hR.built fun id ob hid => by rw [hold5 id (hF1.lt hid), hid]
        have hel := hR.len
        obtain ⟨H6, happ, hn6, hk6, hF6, hB6⟩ := push_raw (bytes := 128) (k := .exact) (x := rowV p x v) hR5 hF5 (Nat.zero_le _) rfl (by simp only [lim]; omega) (by omega)
        have hR6 := hR.more hF1 hx hold5 (by omega) hF5 hB5 hB6 hk6
        rw [← h5] at happ
        simp only [rowV] at happ
        simp
        rw [← ek]
        simp [a_place_kids, c0, c1, c5, c6, c7, hq]
        refine ⟨_, ih (stmtSz x.body) (by omega) x.body rfl (by omega) x.kb, ?_⟩
        simp
        refine ⟨_, ih (stmtSz x.els) (by omega) x.els rfl (by omega) x.kl, ?_⟩
        simp [c0, c1, c5, c6, c7, g7, splice, happ, hw]
        exact ⟨l.length - (i + 1), by omega, i + 1, by omega, rfl, rfl, ⟨_, hR6⟩, hF6⟩
      · have n1 : ¬ (i : Int) < l.length := by omega
        have hie : i = l.length := by omega
        subst hie
        simp [e0, e1, e5, e6, stmtCells_len]
        exact hR.view
end Go.Proofs.YtebopfpgicamiaaDoor
