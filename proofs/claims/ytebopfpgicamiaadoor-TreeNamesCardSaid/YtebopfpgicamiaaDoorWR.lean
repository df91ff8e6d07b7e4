/- tree: programs that stand elsewhere; what the same programs have in common. -/
import Derived.Test.YtebopfpgicamiaaDoorWP
import Derived.Test.YtebopfpgicamiaaDoorKF
namespace Go.Fw
set_option linter.unusedSimpArgs false
set_option linter.unusedVariables false
set_option linter.unusedSectionVars false
variable [Globals]
open Go
theorem AV.cells_agg (cs : List AV) : (AV.agg cs).cells = some cs := rfl
theorem fresh_rewr {H : AHeap} {N i : Nat} {o o2 : AObj} (h : Fresh H N) (hi : H i = some o) : Fresh (H.set i o2) N := fun j hj => by
  have := h.lt hi
  simp only [AHeap.set]
  rw [if_neg (by omega)]
  exact h j hj
theorem PCall.nrmR {P : Program} {f : FuncId} {args : List AV} {r r' : AV} (h : PCall P f args r) (hn : r.norm = r'.norm) : PCall P f args r' :=
  ⟨h.1, fun e vs h1 h2 h3 => (h.2 e vs h1 h2 h3).mono fun _ _ ⟨v, e', a, b, c, d⟩ => ⟨v, e', a, b, rep_of_norm hn c, d⟩⟩
end Go.Fw
namespace Go.Proofs.YtebopfpgicamiaaDoor
set_option linter.unusedSimpArgs false
set_option linter.unusedVariables false
open Go Go.Fw

/-- The kind of a slice that was built. -/
def plK {α : Type} : List α → SK
  | [] => .nil
  | _ :: _ => .any
mutual
def plE (p : Int) : ExprV → ExprV
  | .mk kind name n _ args _ => .mk kind name n (plK args) (plEs p args) p
def plEs (p : Int) : List ExprV → List ExprV
  | [] => []
  | e :: l => plE p e :: plEs p l
end
mutual
def plS (p : Int) : StmtV → StmtV
  | .mk kind name to new _ e _ body _ els _ => .mk kind name to new (plK e) (plEs p e) (plK body) (plSs p body) (plK els) (plSs p els) p
def plSs (p : Int) : List StmtV → List StmtV
  | [] => []
  | s :: l => plS p s :: plSs p l
end
def plD (p : Int) (d : DeclV) : DeclV := ⟨d.kind, d.name, d.n, d.kp, d.params, plK d.body, plSs p d.body, p⟩
theorem plE_eq (p : Int) (e : ExprV) : plE p e = .mk e.kind e.name e.n (plK e.args) (plEs p e.args) p := by cases e; rfl
theorem plS_eq (p : Int) (s : StmtV) : plS p s = .mk s.kind s.name s.to s.new (plK s.e) (plEs p s.e) (plK s.body) (plSs p s.body) (plK s.els) (plSs p s.els) p := by cases s; rfl
theorem plEs_map (p : Int) (l : List ExprV) : plEs p l = l.map (plE p) := by
  induction l with
  | nil => rfl
  | cons e l ih => rw [plEs, ih, List.map_cons]
theorem plSs_map (p : Int) (l : List StmtV) : plSs p l = l.map (plS p) := by
  induction l with
  | nil => rfl
  | cons e l ih => rw [plSs, ih, List.map_cons]

/- All hangs on the bare program alone. -/
theorem plE_bare (p : Int) (e : ExprV) : (plE p e).bare = e.bare := by
  induction e using ExprV.ind with
  | h e ih =>
    have : bareEs (plEs p e.args) = bareEs e.args := by
      rw [plEs_map, bareEs_map, bareEs_map, List.map_map]
      exact List.map_congr_left ih
    rw [plE_eq, ExprV.bare_eq]
    exact ⟨rfl, rfl, rfl, this⟩
theorem plEs_bare (p : Int) (l : List ExprV) : bareEs (plEs p l) = bareEs l := by
  rw [plEs_map, bareEs_map, bareEs_map, List.map_map]
  exact List.map_congr_left fun e _ => plE_bare p e
theorem plS_bare (p : Int) (s : StmtV) : (plS p s).bare = s.bare := by
  induction s using StmtV.ind with
  | h s ih1 ih2 =>
    have h1 : bareSs (plSs p s.body) = bareSs s.body := by
      rw [plSs_map, bareSs_map, bareSs_map, List.map_map]
      exact List.map_congr_left ih1
    have h2 : bareSs (plSs p s.els) = bareSs s.els := by
      rw [plSs_map, bareSs_map, bareSs_map, List.map_map]
      exact List.map_congr_left ih2
    have h3 := plEs_bare p s.e
    rw [plS_eq, StmtV.bare_eq]
    exact ⟨rfl, rfl, rfl, rfl, h3, h1, h2⟩
theorem plSs_bare (p : Int) (l : List StmtV) : bareSs (plSs p l) = bareSs l := by
  rw [plSs_map, bareSs_map, bareSs_map, List.map_map]
  exact List.map_congr_left fun e _ => plS_bare p e
theorem plD_bare (p : Int) (d : DeclV) : (plD p d).bare = d.bare := by
  simp [DeclV.bare, plD, plSs_bare]
theorem plDs_bare (p : Int) (l : List DeclV) : barePs (l.map (plD p)) = barePs l := by
  rw [barePs, barePs, List.map_map]
  exact List.map_congr_left fun e _ => plD_bare p e

theorem bare_E (e : ExprV) : mayE e.bare = mayE e ∧ depE e.bare = depE e ∧ cntE e.bare = cntE e ∧ e.bare.sz = e.sz := by
  induction e using ExprV.ind with
  | h e ih =>
    have h : ∀ l : List ExprV, (∀ x ∈ l, mayE x.bare = mayE x ∧ depE x.bare = depE x ∧ cntE x.bare = cntE x ∧ x.bare.sz = x.sz) → mayEs (bareEs l) = mayEs l ∧ depEs (bareEs l) = depEs l ∧ cntEs (bareEs l) = cntEs l ∧ exprSz (bareEs l) = exprSz l := fun l => by
      induction l with
      | nil => intro _; exact ⟨rfl, rfl, rfl, rfl⟩
      | cons x l ih =>
        intro h
        obtain ⟨a, b, c, d⟩ := h x (by simp)
        obtain ⟨a', b', c', d'⟩ := ih fun y hy => h y (by simp [hy])
        simp only [bareEs, mayEs, depEs, cntEs, exprSz, a, b, c, d, a', b', c', d', and_self]
    obtain ⟨a, b, c, d⟩ := h e.args ih
    have hl : (bareEs e.args).length = e.args.length := by rw [bareEs_map, List.length_map]
    cases e
    simp only [ExprV.args] at a b c d hl
    simp only [ExprV.bare, mayE, depE, cntE, ExprV.sz, a, b, c, d, hl, and_self]
theorem bare_Es (l : List ExprV) : mayEs (bareEs l) = mayEs l ∧ depEs (bareEs l) = depEs l ∧ cntEs (bareEs l) = cntEs l ∧ exprSz (bareEs l) = exprSz l := by
  induction l with
  | nil => exact ⟨rfl, rfl, rfl, rfl⟩
  | cons x l ih =>
    obtain ⟨a, b, c, d⟩ := bare_E x
    obtain ⟨a', b', c', d'⟩ := ih
    simp only [bareEs, mayEs, depEs, cntEs, exprSz, a, b, c, d, a', b', c', d', and_self]
theorem bare_S (s : StmtV) : mayS s.bare = mayS s ∧ depS s.bare = depS s ∧ cntS s.bare = cntS s ∧ s.bare.sz = s.sz := by
  induction s using StmtV.ind with
  | h s ih1 ih2 =>
    have h : ∀ l : List StmtV, (∀ x ∈ l, mayS x.bare = mayS x ∧ depS x.bare = depS x ∧ cntS x.bare = cntS x ∧ x.bare.sz = x.sz) → maySs (bareSs l) = maySs l ∧ depSs (bareSs l) = depSs l ∧ cntSs (bareSs l) = cntSs l ∧ stmtSz (bareSs l) = stmtSz l := fun l => by
      induction l with
      | nil => intro _; exact ⟨rfl, rfl, rfl, rfl⟩
      | cons x l ih =>
        intro h
        obtain ⟨a, b, c, d⟩ := h x (by simp)
        obtain ⟨a', b', c', d'⟩ := ih fun y hy => h y (by simp [hy])
        simp only [bareSs, maySs, depSs, cntSs, stmtSz, a, b, c, d, a', b', c', d', and_self]
    obtain ⟨a, b, c, d⟩ := h s.body ih1
    obtain ⟨a2, b2, c2, d2⟩ := h s.els ih2
    obtain ⟨a3, b3, c3, d3⟩ := bare_Es s.e
    have hl1 : (bareEs s.e).length = s.e.length := by rw [bareEs_map, List.length_map]
    have hl2 : (bareSs s.body).length = s.body.length := by rw [bareSs_map, List.length_map]
    have hl3 : (bareSs s.els).length = s.els.length := by rw [bareSs_map, List.length_map]
    cases s
    simp only [StmtV.e, StmtV.body, StmtV.els] at *
    simp only [StmtV.bare, mayS, depS, cntS, StmtV.sz, a, b, c, d, a2, b2, c2, d2, a3, b3, c3, d3, hl1, hl2, hl3, and_self]
theorem bare_Ss (l : List StmtV) : maySs (bareSs l) = maySs l ∧ depSs (bareSs l) = depSs l ∧ cntSs (bareSs l) = cntSs l ∧ stmtSz (bareSs l) = stmtSz l := by
  induction l with
  | nil => exact ⟨rfl, rfl, rfl, rfl⟩
  | cons x l ih =>
    obtain ⟨a, b, c, d⟩ := bare_S x
    obtain ⟨a', b', c', d'⟩ := ih
    simp only [bareSs, maySs, depSs, cntSs, stmtSz, a, b, c, d, a', b', c', d', and_self]
theorem bare_P (l : List DeclV) : mayP (barePs l) = mayP l ∧ depP (barePs l) = depP l ∧ cntP (barePs l) = cntP l ∧ declSz (barePs l) = declSz l := by
  have hD : ∀ d : DeclV, declB d.bare = declB d ∧ d.bare.sz = d.sz := fun d => by
    obtain ⟨a, b, c, e⟩ := bare_Ss d.body
    have hl2 : (bareSs d.body).length = d.body.length := by rw [bareSs_map, List.length_map]
    constructor
    · simp only [declB, DeclV.bare, a, hl2]
      rfl
    · simp only [DeclV.sz, DeclV.bare, e]
  have hA : (barePs l).all declB = l.all declB := by
    induction l with
    | nil => rfl
    | cons d l ih => simp only [barePs, List.map_cons, List.all_cons] at ih ⊢; rw [ih, (hD d).1]
  have hdep : depP (barePs l) = depP l := by
    clear hA
    induction l with
    | nil => rfl
    | cons d l ih => simp only [barePs, List.map_cons, depP] at ih ⊢; rw [ih]; simp only [DeclV.bare, (bare_Ss d.body).2.1]
  have hcnt : cntP (barePs l) = cntP l := by
    clear hA hdep
    induction l with
    | nil => rfl
    | cons d l ih => simp only [barePs, List.map_cons, cntP] at ih ⊢; rw [ih]; simp only [DeclV.bare, (bare_Ss d.body).2.2.1]
  have hsz : declSz (barePs l) = declSz l := by
    clear hA hdep hcnt
    induction l with
    | nil => rfl
    | cons d l ih => simp only [barePs, List.map_cons, declSz] at ih ⊢; rw [ih, (hD d).2]
  have hl : (barePs l).length = l.length := by simp [barePs]
  refine ⟨?_, hdep, hcnt, hsz⟩
  simp only [mayP, hA, hdep, hl]
theorem same_P {a b : List DeclV} (h : barePs a = barePs b) : mayP a = mayP b ∧ depP a = depP b ∧ cntP a = cntP b ∧ declSz a = declSz b := by
  obtain ⟨a1, a2, a3, a4⟩ := bare_P a
  obtain ⟨b1, b2, b3, b4⟩ := bare_P b
  rw [h] at a1 a2 a3 a4
  exact ⟨a1.symm.trans b1, a2.symm.trans b2, a3.symm.trans b3, a4.symm.trans b4⟩

theorem plE_ok {p : Int} (h0 : -9223372036854775808 ≤ p) (h1 : p < 9223372036854775808) (e : ExprV) : e.Ok → (plE p e).Ok := by
  induction e using ExprV.ind with
  | h e ih =>
    intro he
    obtain ⟨⟨a, b⟩, ⟨c, d⟩, f⟩ := he.eq
    rw [plE_eq]
    refine ⟨a, b, c, d, h0, h1, (exprsOk_iff _).2 fun x hx => ?_⟩
    rw [plEs_map, List.mem_map] at hx
    obtain ⟨y, hy, rfl⟩ := hx
    exact ih y hy (f y hy)
theorem plEs_ok {p : Int} (h0 : -9223372036854775808 ≤ p) (h1 : p < 9223372036854775808) {l : List ExprV} (h : ∀ e ∈ l, e.Ok) : exprsOk (plEs p l) := (exprsOk_iff _).2 fun x hx => by
  rw [plEs_map, List.mem_map] at hx
  obtain ⟨y, hy, rfl⟩ := hx
  exact plE_ok h0 h1 y (h y hy)
theorem plS_ok {p : Int} (h0 : -9223372036854775808 ≤ p) (h1 : p < 9223372036854775808) (s : StmtV) : s.Ok → (plS p s).Ok := by
  induction s using StmtV.ind with
  | h s ih1 ih2 =>
    intro hs
    obtain ⟨⟨a, b⟩, c, d, f⟩ := hs.eq
    rw [plS_eq]
    refine ⟨a, b, h0, h1, plEs_ok h0 h1 c, (stmtsOk_iff _).2 fun x hx => ?_, (stmtsOk_iff _).2 fun x hx => ?_⟩
    · rw [plSs_map, List.mem_map] at hx
      obtain ⟨y, hy, rfl⟩ := hx
      exact ih1 y hy (d y hy)
    · rw [plSs_map, List.mem_map] at hx
      obtain ⟨y, hy, rfl⟩ := hx
      exact ih2 y hy (f y hy)
theorem plD_ok {p : Int} (h0 : -9223372036854775808 ≤ p) (h1 : p < 9223372036854775808) {d : DeclV} (h : d.Ok) : (plD p d).Ok :=
  ⟨h.k0, h.k1, h.n0, h.n1, (stmtsOk_iff _).2 fun x hx => by
    simp only [plD, plSs_map, List.mem_map] at hx
    obtain ⟨y, hy, rfl⟩ := hx
    exact plS_ok h0 h1 y ((stmtsOk_iff _).1 h.body y hy)⟩

theorem plEs_len (p : Int) (l : List ExprV) : (plEs p l).length = l.length := by rw [plEs_map, List.length_map]
theorem plSs_len (p : Int) (l : List StmtV) : (plSs p l).length = l.length := by rw [plSs_map, List.length_map]
theorem plEs_take {p : Int} {l : List ExprV} {i : Nat} {x : ExprV} (h : l[i]? = some x) : exprCells (plEs p (l.take (i + 1))) = exprCells (plEs p (l.take i)) ++ [(plE p x).cells] := by
  have hlt := (List.getElem?_eq_some_iff.1 h).1
  rw [take_next hlt, (List.getElem?_eq_some_iff.1 h).2]
  simp [plEs_map, exprCells_map]
/-- How a built slice of expressions reads, told in one way. -/
theorem bslE_norm (p : Int) (l : List ExprV) : (bsl (.sl .nil 0 []) 5 (exprCells (plEs p l))).norm = (AV.sl (plK l) 5 (exprCells (plEs p l))).norm := by
  cases l with
  | nil => rfl
  | cons x l => rfl

theorem p_placed (p : Int) (e : ExprV) : e.sz ≤ 10000000 → PCall Tryd.prog 49 [.agg e.cells, i64 p] (.agg (plE p e).cells) := by
  induction e using ExprV.ind with
  | h e ih =>
    intro hsz
    have hse := e.sz_eq
    have hll := exprSz_len e.args
    have hce := e.cells_eq
    have hend : (AV.agg [u8 e.kind, str e.name, i64 e.n, bsl (.sl .nil 0 []) 5 (exprCells (plEs p e.args)), i64 p]).norm = (AV.agg (plE p e).cells).norm := by
      have h5 : ∀ a b : AV, a.norm = b.norm → (AV.agg [u8 e.kind, str e.name, i64 e.n, a, i64 p]).norm = (AV.agg [u8 e.kind, str e.name, i64 e.n, b, i64 p]).norm := fun a b h => by
        show AV.agg [_, _, _, a.norm, _] = AV.agg [_, _, _, b.norm, _]
        rw [h]
      rw [plE_eq]
      exact h5 _ _ (bslE_norm p e.args)
    refine PCall.nrmR (PCall.of fun N => acallF mixed c_bobbinlaw02_placed (by simp) fun hF => ?_) hend
    rw [hce]
    simp [a_bobbinlaw02_placed, splice]
    refine run_loop (fun m s => ∃ (i : Nat) (v : AV), i ≤ e.args.length ∧ m = e.args.length - i ∧ s.A 1 = i64 p ∧ s.A 2 = .ip e.cells 0 ∧ s.A 4 = .mp N 0 ∧ s.A 5 = .mp (N + 1) 0 ∧ s.A 6 = i64 i ∧ s.H N = some (.blk [u8 0, str noStr, i64 0, .sl .nil 0 [], i64 0]) ∧ s.H (N + 1) = some (.blk [u8 e.kind, str e.name, i64 e.n, v, i64 p]) ∧ Built s.H (N + 2) 5 (.sl .nil 0 []) (exprCells (plEs p (e.args.take i))) v ∧ N + 2 ≤ s.N ∧ Fresh s.H s.N) e.args.length ?_ ?_
    · refine ⟨0, .sl .nil 0 [], by omega, by omega, by simp, by simp [hce], by simp, by simp, by simp, by simp [AHeap.set]; rfl, by simp [AHeap.set], Built.nil, Nat.le_refl _, ?_⟩
      intro j hj
      simp only [AHeap.set]
      simp only at hj
      repeat rw [if_neg (by omega)]
      exact hF j (by omega)
    · rintro m A1 H1 N1 ⟨i, v, hi, rfl, e1, e2, e4, e5, e6, hN, hN1, hB, hNN, hF1⟩
      simp only at e1 e2 e4 e5 e6 hN hN1 hB hNN hF1
      rw [hce] at e2
      have hc := hB.rd.cells
      by_cases hil : i < e.args.length
      · have n1 : (i : Int) < e.args.length := by omega
        obtain ⟨x, hx⟩ : ∃ x, e.args[i]? = some x := ⟨e.args[i], List.getElem?_eq_getElem hil⟩
        have hxm := List.mem_of_getElem? hx
        have hxs := exprSz_mem hxm
        have hq : aindex 5 (.sl e.k 5 (exprCells e.args)) (i64 (i : Nat)) = some (.ip x.cells 0) := aindex_sl (by omega) (by simpa using exprCells_at hx)
        have hxl : x.cells.length = 5 := by rw [x.cells_eq]; rfl
        have hw : IntKind.i64.wrap ((i : Int) + 1) = ((i + 1 : Nat) : Int) := by rw [wrap_i64 (by omega) (by omega)]; rfl
        have hplc := (plE p x).cells_eq
        have htk := plEs_take (p := p) hx
        obtain ⟨v', H', N', happ, hB', hold, hNle, hF'⟩ := hB.push (bytes := 64) (k := .exact) (x := (plE p x).cells) hF1 hNN (by rw [hplc]; rfl) (by rw [exprCells_len, plEs_len, List.length_take]; simp only [lim]; omega) (by rw [exprCells_len, plEs_len, List.length_take]; omega)
        have hc' := hB'.rd.cells
        have g0 := hold N (by omega)
        have g1 := hold (N + 1) (by omega)
        rw [hplc] at happ
        simp [a_bobbinlaw02_placedb1, e1, e2, e4, e5, e6, exprCells_len, n1, hq, hxl, take_len hxl, hN1]
        refine ⟨_, ih x hxm (by omega), ?_⟩
        rw [hplc]
        have g1' := g1.trans hN1
        simp [splice, happ, hc', e1, e2, e4, e5, e6, g1', hw, -AV.cells, AV.cells_agg]
        refine ⟨e.args.length - (i + 1), by omega, i + 1, by omega, rfl, hce.symm, rfl, g0.trans hN, ?_, by omega, fresh_rewr hF' g1'⟩
        rw [htk]
        exact hB'.keep fun j hj => by simp only [AHeap.set]; rw [if_neg (by omega)]
      · have n1 : ¬ (i : Int) < e.args.length := by omega
        have hie : i = e.args.length := by omega
        subst hie
        rw [List.take_length] at hB
        simp [a_bobbinlaw02_placedb1, e1, e2, e4, e5, e6, exprCells_len, hN, hN1, hc, splice, AHeap.set]
        have hv := (hB.keep (H' := H1.set N (.blk [u8 e.kind, str e.name, i64 e.n, v, i64 p])) fun j hj => by simp only [AHeap.set]; rw [if_neg (by omega)]).view (exprCells_free _)
        exact View.agg' (.cons (.free rfl) (.cons (.free rfl) (.cons (.free rfl) (.cons hv (.cons (.free rfl) .nil)))))
end Go.Proofs.YtebopfpgicamiaaDoor
