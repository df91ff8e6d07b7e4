/- tree: the law TreeAlone. -/
import Derived.Test.YtebopfpgicamiaaDoorWM
import Derived.Test.YtebopfpgicamiaaDoorKE
namespace Go.Fw
set_option linter.unusedSimpArgs false
set_option linter.unusedVariables false
set_option linter.unusedSectionVars false
variable [Globals]
open Go

/-- A call that only makes memory: what it is handed may be told as values, and nothing is lost. -/
theorem PCall.seen {P : Program} {f : FuncId} {args args' : List AV} {x : Value} {H : AHeap} {N : Nat} {Q : AV → AHeap → Nat → Prop} (h : PCall P f args' (.lit x))
    (hl : args.length = args'.length) (hv : ∀ (i : Nat) (a b : AV), args[i]? = some a → args'[i]? = some b → a = b ∨ View H a b) (hq : Q (.lit x) H N) : ACall P f args H N Q := by
  refine ⟨h.1, fun e vs hH hN hvl hr => ?_⟩
  have hK' := hrep_still (K := noHeap) (F := H) hH (fun id o ho => by cases ho) (fun _ _ h => h) (fun id o ho => by cases ho)
  refine (h.2 (e.still H e.ρ e.N) vs ⟨hK'.imm, hK'.gl⟩ (hvl.trans hl) (fun i c v hc hv' => ?_)).mono ?_
  · have hi : i < args'.length := (List.getElem?_eq_some_iff.1 hc).1
    have ha : args[i]? = some (args[i]'(by omega)) := by simp [show i < args.length by omega]
    have hrep := hr i _ v ha hv'
    rcases hv i _ c ha hc with h1 | h1
    · rw [← h1]; exact hrep.ext ext_still
    · exact h1.rep hH hrep _ _
  · rintro y w' ⟨v, e2, rfl, rfl, hrep, hp⟩
    cases hrep
    have hp' : PTr e { w := e2.w, I := e.I, ρ := e.ρ, N := e.N } := ⟨rfl, rfl, hp.old, fun _ h => h, fun _ h => .inl h, hp.size, hp.os, hp.tape, hp.output⟩
    exact ⟨x, { w := e2.w, I := e.I, ρ := e.ρ, N := e.N }, .lit x, H, rfl, rfl, by rw [← hN] at hq; exact hq, .lit x, hp'.hrep hH, hp'.tr hH⟩
theorem one_arg {H : AHeap} {b c : AV} (h : View H b c) : ∀ (i : Nat) (x y : AV), [b][i]? = some x → [c][i]? = some y → x = y ∨ View H x y := fun i x y hx hy => by
  match i, hx, hy with
  | 0, hx, hy => cases hx; cases hy; exact .inr h
  | i + 1, hx, hy => cases hx
theorem freeL_flat : ∀ {es : List (List AV)}, freeLL es = true → freeL es.flatten = true
  | [], _ => rfl
  | a :: r, h => by
    simp only [freeLL, Bool.and_eq_true] at h
    have app : ∀ (a b : List AV), freeL a = true → freeL b = true → freeL (a ++ b) = true := fun a b ha hb => by
      induction a with
      | nil => exact hb
      | cons c a ih => simp only [List.cons_append, freeL, Bool.and_eq_true] at ha ⊢; exact ⟨ha.1, ih ha.2⟩
    exact app _ _ h.1 (freeL_flat h.2)
theorem view_flat {H : AHeap} {o1 sz : Nat} {es : List (List AV)} (hs : ∀ x ∈ es, x.length = sz) (hf : freeLL es = true) {n : Nat} (hn : es.length = n) (ho : H o1 = some (.blk es.flatten)) : View H (.ms o1 0 n sz) (.sl .any sz es) := by
  have h := View.ms (H := H) (id := o1) (off := 0) (len := n) (sz := sz) (cs := es.flatten) (ds := es.flatten) ho (by rw [flatten_len hs, hn]; omega) rfl (fun i c d hc hd => by
    rw [hc] at hd
    cases hd
    exact .free (freeL_get (freeL_flat hf) hc))
  rw [List.drop_zero, ← hn, Go.Fw.chunks_flatten hs] at h
  rw [← hn]
  exact h
end Go.Fw
namespace Go.Proofs.YtebopfpgicamiaaDoor
set_option linter.unusedSimpArgs false
set_option linter.unusedVariables false
open Go Go.Fw
theorem freeLL_of {l : List (List AV)} (h : ∀ x ∈ l, freeL x = true) : freeLL l = true := by
  induction l with
  | nil => rfl
  | cons x l ih => simp only [freeLL, Bool.and_eq_true]; exact ⟨h x (by simp), ih fun y hy => h y (by simp [hy])⟩
theorem ExprV.freeC (e : ExprV) : freeL e.cells = true := by
  induction e using ExprV.ind with
  | h e ih =>
    have : freeLL (exprCells e.args) = true := freeLL_of fun x hx => by
      rw [exprCells_map, List.mem_map] at hx
      obtain ⟨y, hy, rfl⟩ := hx
      exact ih y hy
    rw [e.cells_eq]
    simp [freeL, AV.free, this]
theorem exprCells_free (l : List ExprV) : freeLL (exprCells l) = true := freeLL_of fun x hx => by
  rw [exprCells_map, List.mem_map] at hx
  obtain ⟨y, hy, rfl⟩ := hx
  exact y.freeC
theorem StmtV.freeC (s : StmtV) : freeL s.cells = true := by
  induction s using StmtV.ind with
  | h s ih1 ih2 =>
    have h1 : freeLL (stmtCells s.body) = true := freeLL_of fun x hx => by
      rw [stmtCells_map, List.mem_map] at hx
      obtain ⟨y, hy, rfl⟩ := hx
      exact ih1 y hy
    have h2 : freeLL (stmtCells s.els) = true := freeLL_of fun x hx => by
      rw [stmtCells_map, List.mem_map] at hx
      obtain ⟨y, hy, rfl⟩ := hx
      exact ih2 y hy
    rw [s.cells_eq]
    simp [freeL, AV.free, h1, h2, exprCells_free]
theorem stmtCells_free (l : List StmtV) : freeLL (stmtCells l) = true := freeLL_of fun x hx => by
  rw [stmtCells_map, List.mem_map] at hx
  obtain ⟨y, hy, rfl⟩ := hx
  exact y.freeC
theorem strCells_free (l : List ByteArray) : freeLL (strCells l) = true := freeLL_of fun x hx => by
  rw [strCells, List.mem_map] at hx
  obtain ⟨y, hy, rfl⟩ := hx
  rfl
theorem DeclV.freeC (d : DeclV) : freeL d.cells = true := by
  simp [DeclV.cells, freeL, AV.free, stmtCells_free, strCells_free]
theorem declCells_free (l : List DeclV) : freeLL (declCells l) = true := freeLL_of fun x hx => by
  rw [declCells, List.mem_map] at hx
  obtain ⟨y, hy, rfl⟩ := hx
  exact y.freeC

/-- A thread that prints an expression, and one that returns it. -/
def sayS (kind : Int) (e : ExprV) : StmtV := .mk kind noStr noStr false .exact [e] .nil [] .nil [] 0
def sayD (name : ByteArray) (kind : Int) (e : ExprV) : DeclV := ⟨5, name, 0, .nil, [], .exact, [sayS kind e], 0⟩
theorem sayD_ok {name : ByteArray} {kind : Int} {e : ExprV} (h0 : 0 ≤ kind) (h1 : kind ≤ 255) (he : e.Ok) : (sayD name kind e).Ok :=
  ⟨by simp [sayD], by simp [sayD], by simp [sayD], by simp [sayD], by simp [sayD, sayS, stmtsOk, StmtV.Ok, exprsOk, h0, h1, he]⟩
theorem sayD_sz (name : ByteArray) (kind : Int) (e : ExprV) : (sayD name kind e).sz = 2 + name.size + e.sz := by
  have : noStr.size = 0 := rfl
  simp [sayD, sayS, DeclV.sz, strSz, stmtSz, StmtV.sz, exprSz, this]
  omega
theorem say_dep (name : ByteArray) (kind : Int) (e : ExprV) : depSs (sayD name kind e).body = 1 + depE e := by
  simp [sayD, sayS, depSs, depS, depEs]
theorem say_cnt (name : ByteArray) (kind : Int) (e : ExprV) : cntSs (sayD name kind e).body = 1 + cntE e := by
  simp [sayD, sayS, cntSs, cntS, cntEs]
theorem say_decl (name : ByteArray) (kind : Int) (e : ExprV) (hn : nameB name = true) (hh : headS kind noStr noStr false 1 0 0 = true) : declB (sayD name kind e) = mayE e := by
  simp [sayD, sayS, declB, hn, maySs, mayS, mayEs, hh]
theorem depE_pos (e : ExprV) : 1 ≤ depE e := by rw [depE_eq]; omega
theorem cntE_pos (e : ExprV) : 1 ≤ cntE e := by rw [cntE_eq]; omega

def sayC (s : ByteArray) (k : Int) (e : ExprV) : List AV := [.lit (.int .u8 5), .lit (.string s), .lit (.int .i64 0), .sl .nil 0 [], .sl .exact 8 [[.lit (.int .u8 k), .lit (.string ⟨#[]⟩), .lit (.string ⟨#[]⟩), .lit (.bool false), .sl .exact 5 [e.cells], .sl .nil 0 [], .sl .nil 0 [], .lit (.int .i64 0)]], .lit (.int .i64 0)]
def twiceL (e : ExprV) : List (List AV) := [sayC ⟨#[116]⟩ 7 e, sayC ⟨#[117]⟩ 9 e]
def twice (e : ExprV) : AV := .sl .any 6 (twiceL e)
theorem tal_rest {A : Nat → AV} {H : AHeap} {N : Nat} {fs : List Fr} {Q : Post} {e : ExprV} {tl tw : List (List AV)} {v : AV} {m me : Bool} {n k : Int}
    (h1 : A 1 = .ip e.cells 0) (h3 : A 3 = .sl .exact 6 tl) (h4 : A 4 = v) (h5 : A 5 = i64 n) (h6 : A 6 = i64 k) (hc : v.cells = some [v]) (hv : View H v (.sl .any 6 tw))
    (c1 : PCall Tryd.prog 11 [.sl .exact 6 tl] (bl m)) (c2 : PCall Tryd.prog 11 [.sl .any 6 tw] (bl m)) (c3 : PCall Tryd.prog 19 [.agg e.cells] (bl me))
    (c4 : PCall Tryd.prog 15 [.sl .any 6 tw] (i64 (2 * n))) (c5 : PCall Tryd.prog 13 [.sl .any 6 tw] (i64 k)) (c6 : PCall Tryd.prog 21 [.agg e.cells, .agg e.cells] (bl true))
    (hm : m = (me && decide (k ≤ 60))) (hn : 2 < n) (hn1 : n < 1000000000) (hk1 : 1 < k)
    (hk : ∀ A' H' N', A' 2 = bl true → onward Tryd.prog fs Q .normal ⟨A', H', N'⟩) : run Tryd.prog (.ops (o_tal0 ++ (o_tal1 ++ (o_tal2 ++ (o_tal3 ++ o_tal4))))) fs Q ⟨A, H, N⟩ := by
  obtain ⟨o1, q1⟩ : ∃ c, o_tal1 = c := ⟨_, rfl⟩
  obtain ⟨o2, q2⟩ : ∃ c, o_tal2 = c := ⟨_, rfl⟩
  obtain ⟨o3, q3⟩ : ∃ c, o_tal3 = c := ⟨_, rfl⟩
  obtain ⟨o4, q4⟩ : ∃ c, o_tal4 = c := ⟨_, rfl⟩
  have el : e.cells.length = 5 := by rw [e.cells_eq]; rfl
  have te := take_len el
  have hw : IntKind.i64.wrap (2 * n) = 2 * n := wrap_i64 (by omega) (by omega)
  have first : ∀ A' : Nat → AV, A' 43 = bl true → (∀ t ∈ [1, 3, 4, 5, 6], A' t = A t) → run Tryd.prog (.ops (o1 ++ (o2 ++ (o3 ++ o4)))) fs Q ⟨A', H, N⟩ := by
    intro A' g43 g
    have g1 := (g 1 (by simp)).trans h1
    have g3 := (g 3 (by simp)).trans h3
    have g4 := (g 4 (by simp)).trans h4
    have g5 := (g 5 (by simp)).trans h5
    have g6 := (g 6 (by simp)).trans h6
    simp [run_append]
    subst q1
    simp [o_tal1, g1, g3, g4, g5, g6, g43, hc]
    refine c2.seen rfl (one_arg hv) ?_
    simp
    refine PCall.acall c1 ?_
    simp [run_append]
    subst q2
    simp [o_tal2, g1, g3, g4, g5, g6, hc, hw]
    refine c4.seen rfl (one_arg hv) ?_
    simp [run_append]
    subst q3
    simp [o_tal3, g1, g3, g4, g5, g6, hc]
    refine c5.seen rfl (one_arg hv) ?_
    simp [run_append]
    subst q4
    simp [o_tal4, g1, g3, g4, g5, g6, hn, hk1, el, te]
    refine PCall.acall c6 ?_
    simp
    exact hk _ _ _ (by simp)
  rw [q1, q2, q3, q4]
  simp [run_append, o_tal0, h1, h3, h6, el, te]
  refine PCall.acall c1 ?_
  simp
  refine PCall.acall c3 ?_
  rw [hm]
  cases me with
  | false =>
    simp [h6]
    refine first _ ?_ ?_ <;> simp
  | true =>
    simp [h6]
    refine first _ ?_ ?_ <;> simp

theorem p_TreeAlone {e : ExprV} (oe : e.Ok) (ze : e.sz ≤ 10000000) (H : AHeap) (N : Nat) : ACall Tryd.prog 7 [.agg e.cells] H N (fun r _ _ => r = bl true) := by
  obtain ⟨oo, qq⟩ : ∃ c, (.ops (o_tal0 ++ (o_tal1 ++ (o_tal2 ++ (o_tal3 ++ o_tal4)))) : ACode) = c := ⟨_, rfl⟩
  have el : e.cells.length = 5 := by rw [e.cells_eq]; rfl
  have te := take_len el
  have hce := e.cells_eq
  have nt : nameB ⟨#[116]⟩ = true := by kernel_rfl
  have nu : nameB ⟨#[117]⟩ = true := by kernel_rfl
  have h7 : headS 7 noStr noStr false 1 0 0 = true := by kernel_rfl
  have h9 : headS 9 noStr noStr false 1 0 0 = true := by kernel_rfl
  have b1 := say_decl ⟨#[116]⟩ 7 e nt h7
  have b2 := say_decl ⟨#[117]⟩ 9 e nu h9
  have k1 := say_dep ⟨#[116]⟩ 7 e
  have k2 := say_dep ⟨#[117]⟩ 9 e
  have n1 := say_cnt ⟨#[116]⟩ 7 e
  have n2 := say_cnt ⟨#[117]⟩ 9 e
  have s1 : (sayD ⟨#[116]⟩ 7 e).sz = 2 + 1 + e.sz := sayD_sz _ _ _
  have s2 : (sayD ⟨#[117]⟩ 9 e).sz = 2 + 1 + e.sz := sayD_sz _ _ _
  have hcl := cntEs_le [e]
  simp [cntEs, exprSz] at hcl
  have hdp := depE_pos e
  have hcp := cntE_pos e
  have z1 : declSz [sayD ⟨#[116]⟩ 7 e] ≤ 100000000 := by simp [declSz]; omega
  have z2 : declSz [sayD ⟨#[116]⟩ 7 e, sayD ⟨#[117]⟩ 9 e] ≤ 100000000 := by simp [declSz]; omega
  have ok1 : (sayD ⟨#[116]⟩ 7 e).Ok := sayD_ok (by omega) (by omega) oe
  have ok2 : (sayD ⟨#[117]⟩ 9 e).Ok := sayD_ok (by omega) (by omega) oe
  have t1 := p_May (k := .exact) (l := [sayD ⟨#[116]⟩ 7 e]) (by simpa using ok1) z1
  have t2 := p_May (k := .any) (l := [sayD ⟨#[116]⟩ 7 e, sayD ⟨#[117]⟩ 9 e]) (by simpa using ⟨ok1, ok2⟩) z2
  have t3 := p_Depth .exact [sayD ⟨#[116]⟩ 7 e] z1
  have t4 := p_Depth .any [sayD ⟨#[116]⟩ 7 e, sayD ⟨#[117]⟩ 9 e] z2
  have t5 := p_Size .exact [sayD ⟨#[116]⟩ 7 e] z1
  have t6 := p_Size .any [sayD ⟨#[116]⟩ 7 e, sayD ⟨#[117]⟩ 9 e] z2
  have t7 := p_SameExpr e e (by omega)
  rw [(sameE_iff e e).2 rfl] at t7
  have t8 := p_MayExpr e oe (by omega)
  have dd1 : depP [sayD ⟨#[116]⟩ 7 e] = 1 + depE e := by simp [depP, k1]
  have dd2 : depP [sayD ⟨#[116]⟩ 7 e, sayD ⟨#[117]⟩ 9 e] = 1 + depE e := by simp [depP, k1, k2]
  have cc1 : cntP [sayD ⟨#[116]⟩ 7 e] = 2 + cntE e := by simp [cntP, n1]; omega
  have cc2 : cntP [sayD ⟨#[116]⟩ 7 e, sayD ⟨#[117]⟩ 9 e] = 2 * (2 + cntE e) := by simp [cntP, n1, n2]; omega
  have mm1 : mayP [sayD ⟨#[116]⟩ 7 e] = (mayE e && decide (((1 + depE e : Nat) : Int) ≤ 60)) := by
    simp only [mayP, List.all_cons, List.all_nil, dd1, b1, List.length_cons, List.length_nil]
    cases mayE e <;> simp
    omega
  have mm2 : mayP [sayD ⟨#[116]⟩ 7 e, sayD ⟨#[117]⟩ 9 e] = (mayE e && decide (((1 + depE e : Nat) : Int) ≤ 60)) := by
    simp only [mayP, List.all_cons, List.all_nil, dd2, b1, b2, List.length_cons, List.length_nil]
    cases mayE e <;> simp
    omega
  rw [mm1] at t1
  rw [mm2] at t2
  rw [dd1] at t3
  rw [dd2] at t4
  rw [cc1] at t5
  rw [cc2] at t6
  refine acall mixed c_bobbinlaw02_TreeAlone (by simp) ?_
  unfold a_bobbinlaw02_TreeAlone
  rw [qq]
  simp [el, te]
  refine (p_lexpr e (by omega) H N).mono ?_
  rintro r1 H1 N1 ⟨⟨m1, rfl, _⟩, rfl, rfl⟩
  by_cases c1 : 2000 < m1
  · simp [c1]
    refine (p_awake _ _).mono ?_
    rintro r2 H2 N2 ⟨rfl, _⟩
    simp
  · simp [c1]
    refine (p_awake _ _).mono ?_
    rintro r2 H2 N2 ⟨rfl, _⟩
    rw [hce]
    simp [splice, asrc, aappend, lim, AHeap.set]
    refine PCall.acall (PCall.nrm t5 ?_) ?_
    · rw [← hce]; kernel_rfl
    simp
    refine PCall.acall (PCall.nrm t3 ?_) ?_
    · rw [← hce]; kernel_rfl
    simp
    rw [← qq]
    rw [← hce]
    have q1 := PCall.nrm (args := [.sl .exact 6 [sayC ⟨#[116]⟩ 7 e]]) t1 (by kernel_rfl)
    have q2 := PCall.nrm (args := [twice e]) t2 (by kernel_rfl)
    have q4 := PCall.nrm (args := [twice e]) t4 (by kernel_rfl)
    have q6 := PCall.nrm (args := [twice e]) t6 (by kernel_rfl)
    refine tal_rest (e := e) (v := .ms (N2 + 1) 0 2 6) (tl := [sayC ⟨#[116]⟩ 7 e]) (tw := twiceL e) (n := ((2 + cntE e : Nat) : Int)) (k := ((1 + depE e : Nat) : Int)) (by simp) (by simp [sayC]) (by simp) (by simp) (by simp) rfl (view_flat (by simp [twiceL, sayC]) (by simp [twiceL, sayC, freeLL, freeL, AV.free, e.freeC]) rfl (by simp [AHeap.set, twiceL, sayC])) q1 q2 t8 (by rw [show (2 * ((2 + cntE e : Nat) : Int)) = ((2 * (2 + cntE e) : Nat) : Int) by omega]; exact q6) q4 t7 rfl (by omega) (by omega) (by omega) fun A' H' N' h2 => ?_
    simp [h2]
end Go.Proofs.YtebopfpgicamiaaDoor
