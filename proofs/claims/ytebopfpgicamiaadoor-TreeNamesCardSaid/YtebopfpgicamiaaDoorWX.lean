/- tree: the examples: statements that may not be. -/
import Derived.Test.YtebopfpgicamiaaDoorWV
namespace Go.Fw
set_option linter.unusedSimpArgs false
set_option linter.unusedVariables false
set_option linter.unusedSectionVars false
variable [Globals]
open Go
theorem drawnOk_all {B : List (Nat × List AV)} {T : List (Nat × AV)} {l : List (Nat × AOper × List Nat)} {k N sz bytes n : Nat} {zs : List AV} : ∀ {r : List (Nat × AOper × List Nat)}, (∀ x ∈ r,
    ∃ d op, x.2.1 = ⟨some d, op, none⟩ ∧ lookB B d = none ∧ ((x.1 ≠ k ∧ ∃ v, pureOp B (restT T (setBy l x.2.2)) op = some v ∧ lookT T d = some v) ∨ (x.1 = k ∧ op = .mkslice sz bytes zs (.val (.lit (.int .i64 n))) (.val (.lit (.int .i64 n))) ∧ lookT T d = some (.ms N 0 n sz)))) → DrawnOk B T l k N sz bytes n zs r
  | [], _ => trivial
  | x :: r, h => ⟨h x (by simp), drawnOk_all fun y hy => h y (by simp [hy])⟩
/-- A region's table, checked at once. -/
theorem drawn_of {B : List (Nat × List AV)} {T : List (Nat × AV)} {l : List (Nat × AOper × List Nat)} {k N sz bytes n dk : Nat} {zs : List AV}
    (h1 : (l.map fun x => if x.1 = k then none else pureOp B (restT T (setBy l x.2.2)) x.2.1.op) = l.map fun x => if x.1 = k then none else x.2.1.dst.bind (lookT T))
    (h2 : l.all (fun x => x.2.1.guard.isNone && (match x.2.1.dst with | some d => (lookB B d).isNone && (lookT T d).isSome | none => false)) = true)
    (h3 : (l.filter fun x => x.1 == k).map (·.2.1) = [⟨some dk, .mkslice sz bytes zs (.val (.lit (.int .i64 n))) (.val (.lit (.int .i64 n))), none⟩]) (h4 : lookT T dk = some (.ms N 0 n sz)) : DrawnOk B T l k N sz bytes n zs l := by
  refine drawnOk_all fun x hx => ?_
  have e1 := List.map_inj_left.1 h1 x hx
  have e2 := List.all_eq_true.1 h2 x hx
  obtain ⟨i, ⟨dst, op, gd⟩, deps⟩ := x
  simp only [Bool.and_eq_true, Option.isNone_iff_eq_none] at e1 e2
  obtain ⟨rfl, e2⟩ := e2
  cases dst with
  | none => cases e2
  | some d =>
    simp only [Bool.and_eq_true, Option.isNone_iff_eq_none, Option.isSome_iff_exists] at e2
    obtain ⟨hb, v, hv⟩ := e2
    refine ⟨d, op, rfl, hb, ?_⟩
    by_cases hk : i = k
    · right
      have : (⟨some d, op, none⟩ : AOper) ∈ (l.filter fun x => x.1 == k).map (·.2.1) := List.mem_map.2 ⟨_, List.mem_filter.2 ⟨hx, by simp [hk]⟩, rfl⟩
      rw [h3, List.mem_singleton] at this
      cases this
      exact ⟨hk, rfl, h4⟩
    · left
      rw [if_neg hk, if_neg hk] at e1
      exact ⟨hk, v, e1.trans hv, hv⟩
theorem lookT_app {T l : List (Nat × AV)} {t : Nat} : lookT (T ++ l) t = (lookT T t).or (lookT l t) := by
  induction T with
  | nil => rfl
  | cons p T ih =>
    obtain ⟨k, v⟩ := p
    simp only [List.cons_append, lookT]
    split
    · rfl
    · exact ih
theorem lookT_mem {T : List (Nat × AV)} {t : Nat} {v : AV} (h : lookT T t = some v) : ∃ p ∈ T, p.1 = t := by
  induction T with
  | nil => cases h
  | cons p T ih =>
    obtain ⟨k, w⟩ := p
    simp only [lookT] at h
    split at h
    · rename_i hk; exact ⟨(k, w), by simp, hk⟩
    · obtain ⟨q, hq, he⟩ := ih h; exact ⟨q, by simp [hq], he⟩
theorem knows_drawn {A A' : Nat → AV} {T l0 : List (Nat × AV)} {l : List (Nat × AOper × List Nat)} (hK : Knows A l0) (h1 : T.all (fun p => l.any fun x => x.2.1.dst == some p.1) = true) (h2 : l.all (fun x => match x.2.1.dst with | some d => (lookT T d).isSome | none => true) = true)
    (hs : ∀ x ∈ l, ∀ d v, x.2.1.dst = some d → lookT T d = some v → A' d = v) (ho : ∀ t, (∀ x ∈ l, x.2.1.dst ≠ some t) → A' t = A t) : Knows A' (T ++ l0) := fun t v e => by
  rw [lookT_app] at e
  cases hT : lookT T t with
  | some w =>
    rw [hT] at e
    cases e
    obtain ⟨p, hp, rfl⟩ := lookT_mem hT
    have := List.all_eq_true.1 h1 p hp
    simp only [List.any_eq_true] at this
    obtain ⟨x, hx, hd⟩ := this
    exact hs x hx p.1 v (by simpa using hd) hT
  | none =>
    rw [hT] at e
    rw [ho t fun x hx hd => ?_]
    · exact hK t v (by simpa using e)
    · have := List.all_eq_true.1 h2 x hx
      rw [hd] at this
      simp only [hT] at this
      cases this
/-- As run_lits: all that comes to be known. -/
theorem run_lits' {P : Program} {fs : List Fr} {Q : Post} {A : Nat → AV} {H : AHeap} {N : Nat} {c : ACode} {l0 l' : List (Nat × AV)} (B : List (Nat × List AV)) (hA : Knows A l0) (hB : BoxOk A H B)
    (h1 : ((opsOf c).bind fun os => pureRun B os l0) = some l') (hk : ∀ A', Knows A' l' → (∀ t, lookT l' t = none → A' t = A t) → onward P fs Q .normal ⟨A', H, N⟩) : run P c fs Q ⟨A, H, N⟩ := by
  cases ho : opsOf c with
  | none => rw [ho] at h1; cases h1
  | some os =>
    have hc : c = .ops os := by
      cases c
      case ops l => cases ho; rfl
      all_goals exact nomatch (show (none : Option (List AOper)) = some os from ho)
    subst hc
    rw [ho] at h1
    exact run_pure (show pureRun B os l0 = some l' from h1) hA hB hk
end Go.Fw
namespace Go.Proofs.YtebopfpgicamiaaDoor
set_option linter.unusedSimpArgs false
set_option linter.unusedVariables false
open Go Go.Fw
def lB : ByteArray := ⟨#[98]⟩
def lF : ByteArray := ⟨#[102]⟩
def zE : ExprV := .mk 0 noStr 0 .nil [] 0
def zC : List AV := [.lit (.int .u8 0), .lit (.string ⟨#[]⟩), .lit (.int .i64 0), .sl .nil 0 [], .lit (.int .i64 0)]
def printS (e : ExprV) : StmtV := .mk 7 noStr noStr false .exact [e] .nil [] .nil [] 0
def badStmts : List StmtV := [.mk 0 noStr noStr false .nil [] .nil [] .nil [] 0, .mk 1 noStr noStr false .exact [exOne] .nil [] .nil [] 0, .mk 1 lA noStr false .nil [] .nil [] .nil [] 0, .mk 3 lA noStr false .exact [exOne] .nil [] .nil [] 0,
  .mk 4 noStr noStr false .nil [] .nil [] .nil [] 0, .mk 5 noStr noStr false .exact [exOne] .nil [] .exact [printS exOne] 0, .mk 6 noStr noStr false .nil [] .nil [] .nil [] 0, .mk 7 lA noStr false .exact [exOne] .nil [] .nil [] 0,
  .mk 8 lF noStr true .nil [] .nil [] .nil [] 0, .mk 8 lF ⟨#[105, 102]⟩ false .nil [] .nil [] .nil [] 0, .mk 8 lF noStr false .any (List.replicate 9 zE) .nil [] .nil [] 0, .mk 9 noStr noStr false .nil [] .nil [] .nil [] 0, .mk 2 lA lB false .exact [exOne] .nil [] .nil [] 0]
def rowsF : List (List AV) := normLL (stmtCells badStmts)
def rowT (v : AV) : List AV := [.lit (.int .u8 8), .lit (.string ⟨#[102]⟩), .lit (.string ⟨#[]⟩), .lit (.bool false), v, .sl .nil 0 [], .sl .nil 0 [], .lit (.int .i64 0)]
def rowsS (N : Nat) : List (List AV) := rowsF.set 10 (rowT (.ms N 0 9 5))
def tnT (N : Nat) : List (Nat × AV) := (pureRun [(1, oneC)] ((l_tn.filter fun x => x.1 != 22).map (·.2.1)) [(86, .ms N 0 9 5)]).getD []
def s0T : List (Nat × AV) := ((opsOf a_tn_s0).bind fun os => pureRun [] os []).getD []
theorem bad_stmts : badStmts.all (fun s => !mayP [thD .exact [s]] && decide (stmtSz [s] ≤ 100)) = true := by kernel_rfl
theorem rowsF_norm : normLL rowsF = normLL (stmtCells badStmts) := by kernel_rfl
theorem rowsF_len : rowsF.all (fun c => decide (c.length = 8)) = true := by kernel_rfl
theorem rowsF_10 : rowsF[10]? = some (rowT (.sl .any 5 (List.replicate 9 zC))) := by kernel_rfl
theorem rowsF_free : freeLL rowsF = true := by kernel_rfl
theorem badS_ok : ∀ s ∈ badStmts, s.Ok := (stmtsOk_iff _).1 (by simp [badStmts, stmtsOk, StmtV.Ok, exprsOk, ExprV.Ok, exOne, printS, zE, List.replicate])
theorem s0_1 : ((opsOf a_tn_s0).bind fun os => pureRun [] os []) = some s0T := by kernel_rfl
theorem s0_2 : ([1, 2, 8] : List Nat).all (fun t => (lookT s0T t).isNone) = true := by kernel_rfl
theorem s1_1 (N : Nat) : ((opsOf a_tn_s1).bind fun os => (pureRun [] os (tnT N ++ s0T)).bind fun l => looksT l [92, 93, 94]) = some [.sl .exact 8 (rowsS N), i64 13, i64 0] := by kernel_rfl
theorem s1_2 (N : Nat) : ((opsOf a_tn_s1).bind fun os => (pureRun [] os (tnT N ++ s0T)).map fun l => ([1, 2, 8] : List Nat).all fun t => (lookT l t).isNone) = some true := by kernel_rfl
theorem tn_d1 (N : Nat) : (l_tn.map fun x => if x.1 = 22 then none else pureOp [(1, oneC)] (restT (tnT N) (setBy l_tn x.2.2)) x.2.1.op) = l_tn.map fun x => if x.1 = 22 then none else x.2.1.dst.bind (lookT (tnT N)) := by kernel_rfl
theorem tn_d2 (N : Nat) : l_tn.all (fun x => x.2.1.guard.isNone && (match x.2.1.dst with | some d => (lookB [(1, oneC)] d).isNone && (lookT (tnT N) d).isSome | none => false)) = true := by kernel_rfl
theorem tn_d3 : (l_tn.filter fun x => x.1 == 22).map (·.2.1) = [⟨some 86, .mkslice 5 64 zC (.val (.lit (.int .i64 (9 : Nat)))) (.val (.lit (.int .i64 (9 : Nat)))), none⟩] := by kernel_rfl
theorem tn_d4 (N : Nat) : lookT (tnT N) 86 = some (.ms N 0 9 5) := by kernel_rfl
theorem tn_d5 (N : Nat) : (tnT N).all (fun p => l_tn.any fun x => x.2.1.dst == some p.1) = true := by kernel_rfl
theorem tn_d6 (N : Nat) : l_tn.all (fun x => match x.2.1.dst with | some d => (lookT (tnT N) d).isSome | none => true) = true := by kernel_rfl
theorem tn_d7 : l_tn.map (·.1) = [1, 2, 3, 5, 6, 7, 9, 10, 11, 12, 13, 14, 15, 17, 18, 19, 22, 23, 25, 26, 27] := by kernel_rfl
theorem tn_d8 : l_tn.map (·.2.1.dst) = [65, 66, 67, 69, 70, 71, 73, 74, 75, 76, 77, 78, 79, 81, 82, 83, 86, 87, 89, 90, 91].map some := by kernel_rfl
theorem drawn_ok (N : Nat) : DrawnOk [(1, oneC)] (tnT N) l_tn 22 N 5 64 9 zC l_tn := drawn_of (tn_d1 N) (tn_d2 N) tn_d3 (tn_d4 N)

/-- May a thread of one statement be? -/
theorem p_ok {c : List AV} (hc : c.length = 8) {m : Bool} (h : PCall Tryd.prog 11 [.sl .exact 6 [thC (.sl .exact 8 [c])]] (bl m)) : PCall Tryd.prog 25 [.agg c] (bl m) := by
  match c, hc with
  | [x0, x1, x2, x3, x4, x5, x6, x7], _ =>
    refine PCall.of fun N => acall mixed c_bobbinlaw02_TreeNames_1 (by simp) ?_
    simp [a_bobbinlaw02_TreeNames_1, splice]
    refine h.acall ?_
    simp
    exact .free rfl
theorem p_okS {c : List AV} {s : StmtV} (hs : s.Ok) (hz : stmtSz [s] ≤ 1000) (hn : normL c = normL s.cells) (hc : c.length = 8) : PCall Tryd.prog 25 [.agg c] (bl (mayP [thD .exact [s]])) := by
  refine p_ok hc ?_
  have hO : ∀ d ∈ [thD .exact [s]], d.Ok := fun d hd => by
    rw [List.mem_singleton.1 hd]
    exact ⟨by simp [thD], by simp [thD], by simp [thD], by simp [thD], by simp [thD, stmtsOk, hs]⟩
  have hZ : declSz [thD .exact [s]] ≤ 100000000 := by
    have : (⟨#[116]⟩ : ByteArray).size = 1 := rfl
    simp only [declSz, DeclV.sz, thD, strSz, this]
    omega
  refine PCall.nrm (p_May (k := .exact) hO hZ) ?_
  show [AV.sl .exact 6 [[_, _, _, _, AV.sl .exact 8 [normL c], _]]] = [AV.sl .exact 6 [[_, _, _, _, AV.sl .exact 8 [normL s.cells], _]]]
  rw [hn]; rfl

section
variable {A : Nat → AV} {H : AHeap} {N : Nat} {fs : List Fr} {Q : Post}
theorem tn_row {o : Nat} (ho : H o = some (.blk (List.replicate 9 zC).flatten)) {i : Nat} {c : List AV} (hc : (rowsS o)[i]? = some c) :
    c.length = 8 ∧ ∃ (c' : List AV) (s : StmtV), s ∈ badStmts ∧ c'.length = 8 ∧ normL c' = normL s.cells ∧ View H (.agg c) (.agg c') := by
  obtain ⟨c', hc', hl, hv⟩ : ∃ c', rowsF[i]? = some c' ∧ c.length = 8 ∧ View H (.agg c) (.agg c') := by
    unfold rowsS at hc
    rw [List.getElem?_set] at hc
    by_cases hi : 10 = i
    · subst hi
      rw [if_pos rfl] at hc
      have h10 := rowsF_10
      rw [if_pos (List.getElem?_eq_some_iff.1 h10).1] at hc
      cases hc
      refine ⟨_, h10, rfl, View.agg' (.cons (.free rfl) (.cons (.free rfl) (.cons (.free rfl) (.cons (.free rfl) (.cons ?_ (.cons (.free rfl) (.cons (.free rfl) (.cons (.free rfl) .nil))))))))⟩
      exact view_flat (fun x hx => by rw [List.eq_of_mem_replicate hx]; rfl) rfl rfl ho
    · rw [if_neg hi] at hc
      have hm := List.mem_of_getElem? hc
      exact ⟨c, hc, of_decide_eq_true (List.all_eq_true.1 rowsF_len c hm), .free (by
        have : ∀ {l : List (List AV)}, freeLL l = true → c ∈ l → freeL c = true := fun {l} => by
          induction l with
          | nil => intro _ h; simp at h
          | cons x l ih =>
            intro h hx
            simp only [freeLL, Bool.and_eq_true] at h
            rcases List.mem_cons.1 hx with rfl | hx
            · exact h.1
            · exact ih h.2 hx
        exact this rowsF_free hm)⟩
  obtain ⟨y, hy, hxy⟩ := normLL_at rowsF_norm hc'
  rw [stmtCells_map, List.getElem?_map, Option.map_eq_some_iff] at hy
  obtain ⟨s, hs, rfl⟩ := hy
  exact ⟨hl, c', s, List.mem_of_getElem? hs, of_decide_eq_true (List.all_eq_true.1 rowsF_len c' (List.mem_of_getElem? hc')), hxy, hv⟩
theorem tn_stmts {c0 c1 : ACode} {o : Nat} (hc0 : a_tn_s0 = c0) (hc1 : a_tn_s1 = c1) (h1 : A 1 = .mp o 0) (h8 : A 8 = .fn (.func 25) [] []) (ho : H o = some (.blk oneC)) (hF : Fresh H N)
    (hk : ∀ A' H' N', (∀ t ∈ [1, 2, 8], A' t = A t) → (∀ j, j < N → H' j = H j) → N ≤ N' → Fresh H' N' → onward Tryd.prog fs Q .normal ⟨A', H', N'⟩) :
    run Tryd.prog (.seq (.seq c0 (.seq (.draw l_tn) c1)) (.block 6 (.loop a_bobbinlaw02_TreeNamesb3))) fs Q ⟨A, H, N⟩ := by
  obtain ⟨ll, hll⟩ : ∃ ll, l_tn = ll := ⟨_, rfl⟩
  rw [hll]
  simp
  refine run_lits' (c := c0) (l0 := []) (l' := s0T) [] (fun t v e => by cases e) (fun t cs e => by cases e) (by rw [← hc0]; exact s0_1) fun A1 hK1 hk1 => ?_
  have keep1 : ∀ t ∈ [1, 2, 8], A1 t = A t := fun t ht => hk1 t (Option.isNone_iff_eq_none.1 (List.all_eq_true.1 s0_2 t ht))
  simp
  rw [← hll]
  refine run_drawn (k := 22) (sz := 5) (bytes := 64) (n := 9) (zs := zC) [(1, oneC)] (tnT N) (fun t cs e => by
    simp only [lookB] at e
    split at e
    · rename_i he; subst he; cases e; exact ⟨o, (keep1 1 (by simp)).trans h1, ho⟩
    · cases e) hF (drawn_ok N) (by rw [tn_d7]; decide) (by rw [tn_d8]; decide) (by rw [tn_d7]; decide) rfl fun A2 hs2 ho2 => ?_
  obtain ⟨H2, hH2⟩ : ∃ H2, H.set N (.blk (List.replicate 9 zC).flatten) = H2 := ⟨_, rfl⟩
  have hF2 : Fresh H2 (N + 1) := hH2 ▸ hF.set _
  have hb2 : H2 N = some (.blk (List.replicate 9 zC).flatten) := by rw [← hH2]; simp [AHeap.set]
  have hold2 : ∀ j, j < N → H2 j = H j := fun j hj => by rw [← hH2]; simp only [AHeap.set]; rw [if_neg (by omega)]
  rw [hH2]
  have hK2 := knows_drawn hK1 (tn_d5 N) (tn_d6 N) hs2 ho2
  have keep2 : ∀ t ∈ [1, 2, 8], A2 t = A t := fun t ht => (ho2 t fun x hx hd => by
    have : some t ∈ l_tn.map (·.2.1.dst) := List.mem_map.2 ⟨x, hx, hd⟩
    rw [tn_d8] at this
    simp at this ht
    omega).trans (keep1 t ht)
  simp
  refine run_lits (c := c1) (ds := [92, 93, 94]) (vs := [.sl .exact 8 (rowsS N), i64 13, i64 0]) (ts := [1, 2, 8]) [] (tnT N ++ s0T) hK2 (fun t cs e => by cases e) (by rw [← hc1]; exact s1_1 N) (by rw [← hc1]; exact s1_2 N) fun A3 h3 ht3 => ?_
  simp only [List.map_cons, List.map_nil, List.cons.injEq, and_true] at h3
  obtain ⟨g92, g93, g94⟩ := h3
  have keep3 : ∀ t ∈ [1, 2, 8], A3 t = A t := fun t ht => (ht3 t ht).trans (keep2 t ht)
  have hlen : (rowsS N).length = 13 := by rw [rowsS, List.length_set]; rfl
  have hrow := fun (H' : AHeap) (ho' : H' N = some (.blk (List.replicate 9 zC).flatten)) (i : Nat) (c : List AV) (hc : (rowsS N)[i]? = some c) => tn_row (H := H') ho' hc
  obtain ⟨L, hL⟩ : ∃ L, rowsS N = L := ⟨_, rfl⟩
  rw [hL] at g92 hlen hrow
  simp
  refine run_loop (fun m s => ∃ i : Nat, i ≤ 13 ∧ m = 13 - i ∧ (∀ t ∈ [1, 2, 8], s.A t = A t) ∧ s.A 92 = .sl .exact 8 L ∧ s.A 93 = i64 13 ∧ s.A 94 = i64 i ∧ (∀ j, j < N + 1 → s.H j = H2 j) ∧ N + 1 ≤ s.N ∧ Fresh s.H s.N) 13 ?_ ?_
  · exact ⟨0, by omega, by omega, keep3, g92, g93, g94, fun _ _ => rfl, Nat.le_refl _, hF2⟩
  · rintro m A1 H1 N1 ⟨i, hi, rfl, eA, e92, e93, e94, hold, hNN, hF1⟩
    simp only at eA e92 e93 e94 hold hNN hF1
    have e1 := eA 1 (by simp)
    have e2 := eA 2 (by simp)
    have e8 := (eA 8 (by simp)).trans h8
    have hw : IntKind.i64.wrap ((i : Int) + 1) = ((i + 1 : Nat) : Int) := by rw [wrap_i64 (by omega) (by omega)]; rfl
    by_cases c : i < 13
    · have c' : (i : Int) < 13 := by omega
      obtain ⟨x, hx⟩ : ∃ x, L[i]? = some x := ⟨L[i]'(by omega), List.getElem?_eq_getElem _⟩
      have hbo : (H1.set N1 (.blk x)) N = some (.blk (List.replicate 9 zC).flatten) := by
        simp only [AHeap.set]; rw [if_neg (by omega), hold N (by omega), hb2]
      obtain ⟨hxl, cr, s, hsm, hcl, hcn, hv⟩ := hrow _ hbo i x hx
      have hb := List.all_eq_true.1 bad_stmts s hsm
      simp only [Bool.and_eq_true, Bool.not_eq_true', decide_eq_true_eq] at hb
      have hq : aindex 8 (.sl .exact 8 L) (i64 (i : Nat)) = some (.ip x 0) := aindex_sl (by omega) (by simpa using hx)
      have hM := p_okS (badS_ok s hsm) (by omega) hcn hcl
      rw [hb.1] at hM
      simp [a_bobbinlaw02_TreeNamesb3, e8, e92, e93, e94, c', hq, hxl, take_len hxl, splice_full, AHeap.set]
      refine hM.seen rfl (one_arg hv) ?_
      simp [e92, e93, e94, hw]
      refine ⟨13 - (i + 1), by omega, i + 1, by omega, rfl, ⟨e1, e2, eA 8 (by simp)⟩, rfl, fun j hj => ?_, by omega, hF1.set _⟩
      rw [if_neg (by omega), hold j hj]
    · have c' : ¬ (i : Int) < 13 := by omega
      simp [a_bobbinlaw02_TreeNamesb3, e93, e94, c']
      refine hk _ H1 N1 (fun t ht => ?_) (fun j hj => by rw [hold j (by omega), hold2 j hj]) (by omega) hF1
      rw [← eA t ht]
      simp only [upA]
      rw [if_neg]
      rintro rfl
      simp at ht
end
end Go.Proofs.YtebopfpgicamiaaDoor
