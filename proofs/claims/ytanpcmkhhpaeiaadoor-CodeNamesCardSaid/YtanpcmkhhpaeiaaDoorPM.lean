/- code: straight operations on literals, run by the kernel. -/
import Derived.Test.YtanpcmkhhpaeiaaDoorK0
import Derived.Test.YtanpcmkhhpaeiaaDoorNU
import Derived.Test.YtanpcmkhhpaeiaaDoorK7
namespace Go.Fw
set_option linter.unusedSimpArgs false
set_option linter.unusedVariables false
set_option linter.unusedSectionVars false
variable [Globals]
open Go

/-- What is known of the temporaries. -/
def lookT (l : List (Nat × AV)) (t : Nat) : Option AV := match l with
  | [] => none
  | (k, v) :: r => if k = t then some v else lookT r t
def evL (l : List (Nat × AV)) : AX → Option AV
  | .tmp t => lookT l t
  | .val a => some a
  | .glob _ => none
def evParts (l : List (Nat × AV)) : List (Nat × Nat × AX) → Option (List (Nat × Nat × AV))
  | [] => some []
  | (o, s, x) :: r => match evL l x, evParts l r with
    | some v, some vs => some ((o, s, v) :: vs)
    | _, _ => none
/-- One operation of values alone. -/
def pureOp (l : List (Nat × AV)) : AOp → Option AV
  | .val x => evL l x
  | .build zs parts => (evParts l parts).bind fun ps => (afill ps zs).map .agg
  | .bslice false sz n zs parts => (evParts l parts).bind fun ps => (afill ps zs).map fun cs => .sl .exact sz (chunks sz n cs)
  | .len k x => (evL l x).bind fun v => (alen k v).map fun n => .lit (.int .i64 n)
  | _ => none
def pureRun : List AOper → List (Nat × AV) → Option (List (Nat × AV))
  | [], l => some l
  | ⟨some d, op, none⟩ :: os, l => match pureOp l op with
    | some v => pureRun os ((d, v) :: l)
    | none => none
  | _ :: _, _ => none

def Knows (A : Nat → AV) (l : List (Nat × AV)) : Prop := ∀ t v, lookT l t = some v → A t = v
theorem Knows.ev {A : Nat → AV} {l : List (Nat × AV)} (h : Knows A l) {H : AHeap} {N : Nat} : ∀ {x : AX} {v : AV}, evL l x = some v → (⟨A, H, N⟩ : St).ev x = v
  | .tmp t, v, e => h t v e
  | .val a, v, e => by cases e; rfl
  | .glob _, v, e => by cases e
theorem Knows.parts {A : Nat → AV} {l : List (Nat × AV)} (h : Knows A l) {H : AHeap} {N : Nat} : ∀ {ps : List (Nat × Nat × AX)} {vs : List (Nat × Nat × AV)}, evParts l ps = some vs → (ps.map fun x => (x.1, x.2.1, (⟨A, H, N⟩ : St).ev x.2.2)) = vs
  | [], vs, e => by cases e; rfl
  | (o, s, x) :: r, vs, e => by
    simp only [evParts] at e
    cases hv : evL l x with
    | none => rw [hv] at e; cases e
    | some v =>
      cases hr : evParts l r with
      | none => rw [hv, hr] at e; cases e
      | some ws =>
        rw [hv, hr] at e
        cases e
        simp only [List.map_cons, h.ev hv, h.parts hr]
theorem runOps_pure {P : Program} {fs : List Fr} {Q : Post} {s : St} {l : List (Nat × AV)} {d : Nat} {os : List AOper} {v : AV} : ∀ {op : AOp}, pureOp l op = some v → runOps P (⟨some d, op, none⟩ :: os) fs Q s = thenK P (aop op s) (some d) os fs Q s := by
  intro op h
  cases op
  case val => rfl
  case build => rfl
  case bslice => rfl
  case len => rfl
  all_goals exact nomatch (show (none : Option AV) = some v from h)
theorem pureOp_ok {A : Nat → AV} {l : List (Nat × AV)} (h : Knows A l) {H : AHeap} {N : Nat} {op : AOp} {v : AV} (e : pureOp l op = some v) : aop op ⟨A, H, N⟩ = some (v, H, N) := by
  cases op
  case val x => exact congrArg (fun v => some (v, H, N)) (h.ev e)
  case build zs parts =>
    simp only [pureOp] at e
    cases hp : evParts l parts with
    | none => rw [hp] at e; cases e
    | some ps =>
      rw [hp] at e
      simp only [Option.bind_some] at e
      simp only [aop, h.parts hp, e, Option.map_some]
  case bslice mu sz n zs parts =>
    cases mu
    case true => exact nomatch (show (none : Option AV) = some v from e)
    simp only [pureOp] at e
    cases hp : evParts l parts with
    | none => rw [hp] at e; cases e
    | some ps =>
      rw [hp] at e
      simp only [Option.bind_some] at e
      cases hf : afill ps zs with
      | none => rw [hf] at e; cases e
      | some cs =>
        rw [hf] at e
        cases e
        simp only [aop, h.parts hp, hf]
        rfl
  case len k x =>
    simp only [pureOp] at e
    cases hx : evL l x with
    | none => rw [hx] at e; cases e
    | some a =>
      rw [hx] at e
      simp only [Option.bind_some] at e
      simp only [aop, h.ev hx, e, Option.map_some]
  all_goals exact nomatch (show (none : Option AV) = some v from e)
theorem Knows.put {A : Nat → AV} {l : List (Nat × AV)} (h : Knows A l) (d : Nat) (v : AV) : Knows (upA A d v) ((d, v) :: l) := fun t w e => by
  simp only [lookT] at e
  simp only [upA]
  by_cases hd : d = t
  · subst hd; rw [if_pos rfl] at e; cases e; rw [if_pos rfl]
  · rw [if_neg hd] at e; rw [if_neg (Ne.symm hd)]; exact h t w e
theorem pure_mono : ∀ {os : List AOper} {l l' : List (Nat × AV)} {t : Nat}, pureRun os l = some l' → lookT l' t = none → lookT l t = none
  | [], l, l', t, e, h => by cases e; exact h
  | ⟨none, _, _⟩ :: os, l, l', t, e, h => nomatch (show (none : Option (List (Nat × AV))) = some _ from e)
  | ⟨some d, _, some _⟩ :: os, l, l', t, e, h => nomatch (show (none : Option (List (Nat × AV))) = some _ from e)
  | ⟨some d, op, none⟩ :: os, l, l', t, e, h => by
    simp only [pureRun] at e
    cases ho : pureOp l op with
    | none => rw [ho] at e; cases e
    | some v =>
      rw [ho] at e
      have := pure_mono e h
      simp only [lookT] at this
      split at this
      · cases this
      · exact this
theorem run_pure {P : Program} {fs : List Fr} {Q : Post} {H : AHeap} {N : Nat} : ∀ {os : List AOper} {l l' : List (Nat × AV)} {A : Nat → AV}, pureRun os l = some l' → Knows A l →
    (∀ A', Knows A' l' → (∀ t, lookT l' t = none → A' t = A t) → onward P fs Q .normal ⟨A', H, N⟩) → runOps P os fs Q ⟨A, H, N⟩
  | [], l, l', A, e, h, hk => by cases e; exact hk A h fun t _ => rfl
  | ⟨none, _, _⟩ :: os, l, l', A, e, h, hk => nomatch (show (none : Option (List (Nat × AV))) = some _ from e)
  | ⟨some d, _, some _⟩ :: os, l, l', A, e, h, hk => nomatch (show (none : Option (List (Nat × AV))) = some _ from e)
  | ⟨some d, op, none⟩ :: os, l, l', A, e, h, hk => by
    simp only [pureRun] at e
    cases ho : pureOp l op with
    | none => rw [ho] at e; cases e
    | some v =>
      rw [ho] at e
      simp only at e
      have hop := pureOp_ok (H := H) (N := N) h ho
      rw [runOps_pure ho, hop]
      refine run_pure (A := upA A d v) e (h.put d v) fun A' hA hne => hk A' hA fun t ht => (hne t ht).trans ?_
      have := pure_mono e ht
      simp only [lookT] at this
      simp only [upA]
      split at this
      · cases this
      · rename_i hd; rw [if_neg (Ne.symm hd)]
def looksT (l : List (Nat × AV)) : List Nat → Option (List AV)
  | [] => some []
  | t :: ts => match lookT l t, looksT l ts with
    | some v, some vs => some (v :: vs)
    | _, _ => none
theorem looks_ok {A : Nat → AV} {l : List (Nat × AV)} (h : Knows A l) : ∀ {ds : List Nat} {vs : List AV}, looksT l ds = some vs → ds.map A = vs
  | [], vs, e => by cases e; rfl
  | t :: ts, vs, e => by
    simp only [looksT] at e
    cases ht : lookT l t with
    | none => rw [ht] at e; cases e
    | some v =>
      cases hr : looksT l ts with
      | none => rw [ht, hr] at e; cases e
      | some ws =>
        rw [ht, hr] at e
        cases e
        rw [List.map_cons, h t v ht, looks_ok h hr]
def opsOf : ACode → Option (List AOper)
  | .ops l => some l
  | _ => none
/-- As run_pure: the temporaries that are asked for, and some that are kept. -/
theorem run_lits {P : Program} {fs : List Fr} {Q : Post} {A : Nat → AV} {H : AHeap} {N : Nat} {c : ACode} {ds : List Nat} {vs : List AV} {ts : List Nat}
    (h1 : ((opsOf c).bind fun os => (pureRun os []).bind fun l => looksT l ds) = some vs) (h2 : ((opsOf c).bind fun os => (pureRun os []).map fun l => ts.all fun t => (lookT l t).isNone) = some true)
    (hk : ∀ A', ds.map A' = vs → (∀ t ∈ ts, A' t = A t) → onward P fs Q .normal ⟨A', H, N⟩) : run P c fs Q ⟨A, H, N⟩ := by
  cases ho : opsOf c with
  | none => rw [ho] at h1; cases h1
  | some os =>
    have hc : c = .ops os := by
      cases c
      case ops l => cases ho; rfl
      all_goals exact nomatch (show (none : Option (List AOper)) = some os from ho)
    subst hc
    show runOps P os fs Q ⟨A, H, N⟩
    rw [ho] at h1 h2
    simp only [Option.bind_some] at h1 h2
    cases hr : pureRun os [] with
    | none => rw [hr] at h1; cases h1
    | some l =>
      rw [hr] at h1 h2
      simp only [Option.bind_some, Option.map_some, Option.some.injEq, List.all_eq_true] at h1 h2
      refine run_pure hr (fun t v e => by cases e) fun A' hA hne => hk A' (looks_ok hA h1) fun t ht => hne t ?_
      have := h2 t ht
      exact Option.isNone_iff_eq_none.1 this
theorem awpOps_append {P : Program} {K : St → Prop} (ys : List AOper) : ∀ (xs : List AOper), awpOps P (xs ++ ys) K = awpOps P xs (awpOps P ys K)
  | [] => rfl
  | o :: xs => by
    show awpOp P o (awpOps P (xs ++ ys) K) = awpOp P o (awpOps P xs (awpOps P ys K))
    rw [awpOps_append ys xs]
/-- A row of operations, in two parts. -/
theorem run_append {P : Program} {xs ys : List AOper} {fs : List Fr} {Q : Post} {s : St} : runOps P (xs ++ ys) fs Q s = runOps P xs (.seq (.ops ys) :: fs) Q s := by
  show awpOps P (xs ++ ys) _ s = awpOps P xs _ s
  rw [awpOps_append]
  rfl
end Go.Fw

/- code: programs of so many locks, of so many threads. -/
namespace Go.Fw
set_option linter.unusedSimpArgs false
set_option linter.unusedVariables false
set_option linter.unusedSectionVars false
variable [Globals]
open Go

/-- What a value of the heap may be told as, to one that only reads. -/
def SeesAs (H : AHeap) (a b : AV) : Prop := ∀ (e : Env) (v : Value), HRep e H → Rep e a v → Rep (e.still H e.ρ e.N) b v
theorem View.sees {H : AHeap} {a b : AV} (h : View H a b) : SeesAs H a b := fun e v hH hr => h.rep hH hr _ _
theorem SeesAs.refl {H : AHeap} (a : AV) : SeesAs H a a := fun e v hH hr => hr.ext ext_still
theorem SeesAs.nil {H : AHeap} (z z' : Nat) : SeesAs H (.sl .nil z []) (.sl .nil z' []) := fun e v hH hr => by
  obtain ⟨_, _, rfl⟩ | ⟨hk, _⟩ | ⟨hk, _⟩ := rep_sl_inv hr
  · exact .slNil _
  · exact absurd rfl hk
  · exact absurd rfl hk
theorem SeesAs.agg {H : AHeap} {cs ds : List AV} (hl : cs.length = ds.length) (h : ∀ (i : Nat) (c d : AV), cs[i]? = some c → ds[i]? = some d → SeesAs H c d) : SeesAs H (.agg cs) (.agg ds) := fun e v hH hr => by
  cases hr with
  | agg hl1 h1 h2 =>
    refine .agg (hl1.trans hl) h1 fun i d u hd hu => ?_
    have hi : i < cs.length := by have := (List.getElem?_eq_some_iff.1 hd).1; omega
    exact h i cs[i] d (by simp [hi]) hd e u hH (h2 i cs[i] u (by simp [hi]) hu)

/-- As PCall.seen, for all that may be told as another. -/
theorem PCall.sees {P : Program} {f : FuncId} {args args' : List AV} {x : Value} {H : AHeap} {N : Nat} {Q : AV → AHeap → Nat → Prop} (h : PCall P f args' (.lit x))
    (hl : args.length = args'.length) (hv : ∀ (i : Nat) (a b : AV), args[i]? = some a → args'[i]? = some b → SeesAs H a b) (hq : Q (.lit x) H N) : ACall P f args H N Q := by
  refine ⟨h.1, fun e vs hH hN hvl hr => ?_⟩
  have hK' := hrep_still (K := noHeap) (F := H) hH (fun id o ho => by cases ho) (fun _ _ h => h) (fun id o ho => by cases ho)
  refine (h.2 (e.still H e.ρ e.N) vs ⟨hK'.imm, hK'.gl⟩ (hvl.trans hl) (fun i c v hc hv' => ?_)).mono ?_
  · have hi : i < args'.length := (List.getElem?_eq_some_iff.1 hc).1
    have ha : args[i]? = some (args[i]'(by omega)) := by simp [show i < args.length by omega]
    exact hv i _ c ha hc e v hH (hr i _ v ha hv')
  · rintro y w' ⟨v, e2, rfl, rfl, hrep, hp⟩
    cases hrep
    have hp' : PTr e { w := e2.w, I := e.I, ρ := e.ρ, N := e.N } := ⟨rfl, rfl, hp.old, fun _ h => h, fun _ h => .inl h, hp.size, hp.os, hp.tape, hp.output⟩
    exact ⟨x, { w := e2.w, I := e.I, ρ := e.ρ, N := e.N }, .lit x, H, rfl, rfl, by rw [← hN] at hq; exact hq, .lit x, hp'.hrep hH, hp'.tr hH⟩
end Go.Fw
namespace Go.Proofs.YtanpcmkhhpaeiaaDoor
set_option linter.unusedSimpArgs false
set_option linter.unusedVariables false
open Go Go.Fw

theorem u8_small {m : Nat} (h : m < 256) : IntKind.u8.wrap (m : Int) = m := by
  simp [IntKind.wrap, IntKind.bits, IntKind.signed]
  first | omega | (split <;> omega)
/-- The names of many locks. -/
def lnm (j : Nat) : ByteArray := ⟨#[108]⟩ ++ ⟨#[UInt8.ofNat (97 + j / 26), UInt8.ofNat (97 + j % 26)]⟩
def lnms (n : Nat) : List ByteArray := (List.range n).map lnm
theorem lnms_next (n : Nat) : lnms (n + 1) = lnms n ++ [lnm n] := by simp [lnms, List.range_succ]
theorem p_lnamed {n : Nat} (h0 : n ≠ 0) (hn : n ≤ 300) : PCall Tryd.prog 44 [i64 (n : Nat)] (.agg [.sl .nil 0 [], .sl .any 1 (strCells (lnms n)), .sl .nil 0 []]) := by
  refine PCall.of fun N => acallF mixed c_bobbinlaw07_named (by simp) fun hF => ?_
  simp [a_bobbinlaw07_named, splice]
  refine run_loop (fun m s => ∃ j v, j ≤ n ∧ m = n - j ∧ s.A 0 = i64 (n : Nat) ∧ s.A 2 = .mp N 0 ∧ s.A 3 = .mp (N + 1) 0 ∧ s.A 4 = i64 j ∧ s.H N = some (.blk [.sl .nil 0 [], .sl .nil 0 [], .sl .nil 0 []]) ∧ s.H (N + 1) = some (.blk [.sl .nil 0 [], v, .sl .nil 0 []]) ∧ Fresh s.H s.N ∧ N + 2 ≤ s.N ∧ Built s.H (N + 2) 1 (.sl .nil 0 []) (strCells (lnms j)) v) n ?_ ?_
  · refine ⟨0, .sl .nil 0 [], by omega, by omega, by simp, by simp, by simp, by simp, by simp [AHeap.set], by simp [AHeap.set], ?_, by simp, ?_⟩
    · exact (hF.set _).set _
    · exact Built.nil
  · rintro m A1 H1 N1 ⟨j, v, hj, rfl, e0, e2, e3, e4, ho, ho1, hF1, hN1, hB⟩
    simp only at e0 e2 e3 e4 ho ho1 hF1 hN1 hB
    have hcl := hB.rd.cells
    by_cases hjn : j = n
    · subst hjn
      have hB2 : Built (H1.set N (.blk [.sl .nil 0 [], v, .sl .nil 0 []])) (N + 2) 1 (.sl .nil 0 []) (strCells (lnms j)) v := hB.keep fun i hi => by
        simp only [AHeap.set]
        rw [if_neg (by omega)]
      have hv := hB2.view (freeLL_map _ _ fun _ _ => rfl)
      have hb : bsl (.sl .nil 0 []) 1 (strCells (lnms j)) = .sl .any 1 (strCells (lnms j)) := by
        obtain ⟨k, rfl⟩ : ∃ k, j = k + 1 := ⟨j - 1, by omega⟩
        simp [lnms, List.range_succ_eq_map, strCells, bsl]
      rw [hb] at hv
      simp [a_bobbinlaw07_namedb1, e0, e2, e3, e4, ho, ho1, splice, -AV.cells]
      refine .agg rfl fun i c d hc hd => ?_
      match i, hc, hd with
      | 0, hc, hd => cases hc; cases hd; exact .free rfl
      | 1, hc, hd => cases hc; cases hd; exact hv
      | 2, hc, hd => cases hc; cases hd; exact .free rfl
      | i + 3, hc, hd => cases hc
    · have hlt : j < n := by omega
      have w1 : IntKind.u8.wrap (IntKind.i64.wrap (97 + IntKind.i64.wrap ((j : Int) / 26))) = ((97 + j / 26 : Nat) : Int) := by
        rw [wrap_i64 (n := (j : Int) / 26) (by omega) (by omega), wrap_i64 (by omega) (by omega), ← u8_small (m := 97 + j / 26) (by omega)]
        push_cast
        rfl
      have w2 : IntKind.u8.wrap (IntKind.i64.wrap (97 + (j : Int).tmod 26)) = ((97 + j % 26 : Nat) : Int) := by
        have e : (j : Int).tmod 26 = ((j % 26 : Nat) : Int) := rfl
        rw [e, wrap_i64 (by omega) (by omega), ← u8_small (m := 97 + j % 26) (by omega)]
        push_cast
        rfl
      have hs : abstr H1 (.sl .exact 1 [[u8 ((97 + j / 26 : Nat) : Int)], [u8 ((97 + j % 26 : Nat) : Int)]]) = some (.lit (.string ⟨#[UInt8.ofNat (97 + j / 26), UInt8.ofNat (97 + j % 26)]⟩)) := by
        simp only [abstr, asrc]
        rfl
      have hadd : sbin .add ⟨#[108]⟩ ⟨#[UInt8.ofNat (97 + j / 26), UInt8.ofNat (97 + j % 26)]⟩ = some (.string (lnm j)) := by
        simp only [sbin]
        rw [if_pos (by show 1 + 2 ≤ 9223372036854775807; omega)]
        rfl
      have hll : (strCells (lnms j)).length = j := by simp [strCells, lnms]
      obtain ⟨v', H', N', happ, hB', hk', hN', hF'⟩ := hB.push (x := [str (lnm j)]) (k := .exact) (bytes := 16) hF1 (by omega) rfl (by rw [hll]; unfold lim; omega) (by rw [hll]; omega)
      have hcl' := hB'.rd.cells
      have g1 : H' (N + 1) = some (.blk [.sl .nil 0 [], v, .sl .nil 0 []]) := (hk' (N + 1) (by omega)).trans ho1
      generalize (⟨#[UInt8.ofNat (97 + j / 26), UInt8.ofNat (97 + j % 26)]⟩ : ByteArray) = B at hs hadd
      push_cast at w1 w2 hs
      simp [a_bobbinlaw07_namedb1, e0, e2, e3, e4, ho, ho1, hlt, splice, w1, w2, hs, hadd, happ, hcl', g1, -AV.cells]
      refine ⟨n - (j + 1), by omega, j + 1, by omega, rfl, ?_, (hk' N (by omega)).trans ho, ?_, by omega, ?_⟩
      · rw [wrap_i64 (by omega) (by omega)]; rfl
      · intro i hi
        simp only [AHeap.set]
        rw [if_neg (by omega)]
        exact hF' i hi
      · rw [lnms_next, show strCells (lnms j ++ [lnm j]) = strCells (lnms j) ++ [[str (lnm j)]] by simp [strCells]]
        exact hB'.keep fun i hi => by
          simp only [AHeap.set]
          rw [if_neg (by omega)]

def tnm (j : Nat) : ByteArray := ⟨#[116]⟩ ++ ⟨#[UInt8.ofNat (97 + j)]⟩
def tfun (j : Nat) : FunV := ⟨tnm j, true, 0, 1, .exact, [⟨13, 0, 0, 0, 0, .nil, 0, []⟩]⟩
def tfuns (n : Nat) : List FunV := (List.range n).map tfun
theorem tfuns_next (n : Nat) : tfuns (n + 1) = tfuns n ++ [tfun n] := by simp [tfuns, List.range_succ]
theorem p_threadsN {n : Nat} (h0 : n ≠ 0) (hn : n ≤ 100) : PCall Tryd.prog 45 [i64 (n : Nat)] (.agg [.sl .nil 0 [], .sl .nil 0 [], .sl .any 5 (funCells (tfuns n))]) := by
  refine PCall.of fun N => acallF mixed c_bobbinlaw07_threads (by simp) fun hF => ?_
  simp [a_bobbinlaw07_threads, splice]
  refine run_loop (fun m s => ∃ j v, j ≤ n ∧ m = n - j ∧ s.A 0 = i64 (n : Nat) ∧ s.A 2 = .mp N 0 ∧ s.A 3 = .mp (N + 1) 0 ∧ s.A 4 = i64 j ∧ s.H N = some (.blk [.sl .nil 0 [], .sl .nil 0 [], .sl .nil 0 []]) ∧ s.H (N + 1) = some (.blk [.sl .nil 0 [], .sl .nil 0 [], v]) ∧ Fresh s.H s.N ∧ N + 2 ≤ s.N ∧ Built s.H (N + 2) 5 (.sl .nil 0 []) (funCells (tfuns j)) v) n ?_ ?_
  · refine ⟨0, .sl .nil 0 [], by omega, by omega, by simp, by simp, by simp, by simp, by simp [AHeap.set], by simp [AHeap.set], ?_, by simp, ?_⟩
    · exact (hF.set _).set _
    · exact Built.nil
  · rintro m A1 H1 N1 ⟨j, v, hj, rfl, e0, e2, e3, e4, ho, ho1, hF1, hN1, hB⟩
    simp only at e0 e2 e3 e4 ho ho1 hF1 hN1 hB
    have hcl := hB.rd.cells
    by_cases hjn : j = n
    · subst hjn
      have hB2 : Built (H1.set N (.blk [.sl .nil 0 [], .sl .nil 0 [], v])) (N + 2) 5 (.sl .nil 0 []) (funCells (tfuns j)) v := hB.keep fun i hi => by
        simp only [AHeap.set]
        rw [if_neg (by omega)]
      have hv := hB2.view (funCells_free _)
      have hb : bsl (.sl .nil 0 []) 5 (funCells (tfuns j)) = .sl .any 5 (funCells (tfuns j)) := by
        obtain ⟨k, rfl⟩ : ∃ k, j = k + 1 := ⟨j - 1, by omega⟩
        simp [tfuns, List.range_succ_eq_map, funCells, bsl]
      rw [hb] at hv
      simp [a_bobbinlaw07_threadsb1, e0, e2, e3, e4, ho, ho1, splice, -AV.cells]
      refine .agg rfl fun i c d hc hd => ?_
      match i, hc, hd with
      | 0, hc, hd => cases hc; cases hd; exact .free rfl
      | 1, hc, hd => cases hc; cases hd; exact .free rfl
      | 2, hc, hd => cases hc; cases hd; exact hv
      | i + 3, hc, hd => cases hc
    · have hlt : j < n := by omega
      have w1 : IntKind.u8.wrap (IntKind.i64.wrap (97 + (j : Int))) = ((97 + j : Nat) : Int) := by
        rw [wrap_i64 (by omega) (by omega), ← u8_small (m := 97 + j) (by omega)]
        push_cast
        rfl
      have hs : abstr H1 (.sl .exact 1 [[u8 ((97 + j : Nat) : Int)]]) = some (.lit (.string ⟨#[UInt8.ofNat (97 + j)]⟩)) := by
        simp only [abstr, asrc]
        rfl
      have hadd : sbin .add ⟨#[116]⟩ ⟨#[UInt8.ofNat (97 + j)]⟩ = some (.string (tnm j)) := by
        simp only [sbin]
        rw [if_pos (by show 1 + 1 ≤ 9223372036854775807; omega)]
        rfl
      have hll : (funCells (tfuns j)).length = j := by simp [funCells, tfuns]
      obtain ⟨v', H', N', happ, hB', hk', hN', hF'⟩ := hB.push (x := (tfun j).cells) (k := .exact) (bytes := 64) hF1 (by omega) rfl (by rw [hll]; unfold lim; omega) (by rw [hll]; omega)
      have hcl' := hB'.rd.cells
      have g1 : H' (N + 1) = some (.blk [.sl .nil 0 [], .sl .nil 0 [], v]) := (hk' (N + 1) (by omega)).trans ho1
      have happ' : aappend false 5 64 H1 N1 v (.sl .exact 5 [[str (tnm j), bl true, i64 0, i64 1, .sl .exact 6 [[u8 13, i64 0, i64 0, i64 0, i64 0, .sl .nil 0 []]]]]) = some (v', H', N') := happ
      generalize (⟨#[UInt8.ofNat (97 + j)]⟩ : ByteArray) = B at hs hadd
      push_cast at w1 hs
      simp [a_bobbinlaw07_threadsb1, e0, e2, e3, e4, ho, ho1, hlt, splice, w1, hs, hadd, happ', hcl', g1, -AV.cells]
      refine ⟨n - (j + 1), by omega, j + 1, by omega, rfl, ?_, (hk' N (by omega)).trans ho, ?_, by omega, ?_⟩
      · rw [wrap_i64 (by omega) (by omega)]; rfl
      · intro i hi
        simp only [AHeap.set]
        rw [if_neg (by omega)]
        exact hF' i hi
      · rw [tfuns_next, show funCells (tfuns j ++ [tfun j]) = funCells (tfuns j) ++ [(tfun j).cells] by simp [funCells]]
        exact hB'.keep fun i hi => by
          simp only [AHeap.set]
          rw [if_neg (by omega)]

/-- A program of one Fun, whatever its code lies in. -/
theorem p_funA {c0 c1 c2 c3 c4 : AV} (H : AHeap) (N : Nat) : ACall Tryd.prog 43 [.agg [c0, c1, c2, c3, c4]] H N (fun r H' N' => r = .agg [.sl .nil 0 [], .sl .nil 0 [], .sl .exact 5 [[c0, c1, c2, c3, c4]]] ∧ N ≤ N' ∧ ∀ j, j < N → H' j = H j) := by
  refine acall mixed c_bobbinlaw07_programs_1 (by simp) ?_
  simp [a_bobbinlaw07_programs_1, splice]
  intro j hj he
  omega
end Go.Proofs.YtanpcmkhhpaeiaaDoor

/- code: lists of programs that may be, or may not. -/
namespace Go.Proofs.YtanpcmkhhpaeiaaDoor
set_option linter.unusedSimpArgs false
set_option linter.unusedVariables false
open Go Go.Fw

section
variable {A : Nat → AV} {H : AHeap} {N : Nat} {fs : List Fr} {Q : Post} {es : List (List AV)} {ps : List PrgV} {o : Nat}

/-- What a list of programs holds, told by values. -/
def Progs (H : AHeap) (es : List (List AV)) (ps : List PrgV) (b : Bool) : Prop :=
  es.length = ps.length ∧ ∀ (i : Nat) (c : List AV) (p : PrgV), es[i]? = some c → ps[i]? = some p → c.length = 3 ∧ SeesAs H (.agg c) (.agg p.cells) ∧ p.Fit ∧ prgB p = b

theorem one_sees {b c : AV} (h : SeesAs H b c) : ∀ (i : Nat) (x y : AV), [b][i]? = some x → [c][i]? = some y → SeesAs H x y := fun i x y hx hy => by
  match i, hx, hy with
  | 0, hx, hy => cases hx; cases hy; exact h
  | i + 1, hx, hy => cases hx

theorem prg_a (h : Progs H es ps true) (hl : es.length ≤ 100) (h5 : A 5 = .sl .exact 3 es) (hk : ∀ A', (∀ t ∈ [1, 2, 4], A' t = A t) → onward Tryd.prog fs Q .normal ⟨A', H, N⟩) : run Tryd.prog a_prg_a fs Q ⟨A, H, N⟩ := by
  obtain ⟨hlp, h⟩ := h
  simp [a_prg_a]
  refine run_loop (fun m s => ∃ j : Nat, j ≤ es.length ∧ m = es.length - j ∧ (∀ t ∈ [1, 2, 4], s.A t = A t) ∧ s.A 5 = .sl .exact 3 es ∧ s.A 6 = i64 j ∧ s.H = H ∧ s.N = N) es.length ?_ ?_
  · exact ⟨0, by omega, by omega, by simp, by simp [h5], by simp, rfl, rfl⟩
  · rintro m A1 H1 N1 ⟨j, hj, rfl, ek, e5, e6, rfl, rfl⟩
    simp only at ek e5 e6
    have e1 := ek 1 (by simp)
    have e2 := ek 2 (by simp)
    have e4 := ek 4 (by simp)
    by_cases hjl : j = es.length
    · simp [a_bobbinlaw07_programsb2, e5, e6, hjl]
      exact hk _ (by simp [e1, e2, e4])
    · have hlt : j < es.length := by omega
      obtain ⟨h3, hs, hf, hb⟩ := h j es[j] (ps[j]'(by omega)) (List.getElem?_eq_getElem hlt) (List.getElem?_eq_getElem (by omega))
      have hq : aindex 3 (.sl .exact 3 es) (i64 (j : Nat)) = some (.ip es[j] 0) := aindex_sl (by omega) (by simp [hlt])
      have hld : ∀ X, aload X true 3 (.ip es[j] 0) = some (.agg es[j]) := fun X => by
        simp [aload, apart, h3]
        rw [List.take_of_length_le (by omega)]
      simp [a_bobbinlaw07_programsb2, e5, e6, hlt, hq, hld, -aload]
      refine (p_May hf).sees rfl (one_sees hs) ?_
      rw [hb]
      simp [e5, e6]
      refine ⟨es.length - (j + 1), by omega, j + 1, by omega, rfl, ⟨e1, e2, e4⟩, ?_⟩
      rw [wrap_i64 (by omega) (by omega)]; rfl

theorem prg_b (h : Progs H es ps false) (hl : es.length ≤ 100) (h7 : A 7 = .sl .exact 3 es) (hk : ∀ A', onward Tryd.prog fs Q .normal ⟨A', H, N⟩) : run Tryd.prog a_prg_b fs Q ⟨A, H, N⟩ := by
  obtain ⟨hlp, h⟩ := h
  simp [a_prg_b]
  refine run_loop (fun m s => ∃ j : Nat, j ≤ es.length ∧ m = es.length - j ∧ s.A 7 = .sl .exact 3 es ∧ s.A 8 = i64 j ∧ s.H = H ∧ s.N = N) es.length ?_ ?_
  · exact ⟨0, by omega, by omega, by simp [h7], by simp, rfl, rfl⟩
  · rintro m A1 H1 N1 ⟨j, hj, rfl, e5, e6, rfl, rfl⟩
    simp only at e5 e6
    by_cases hjl : j = es.length
    · simp [a_bobbinlaw07_programsb1, e5, e6, hjl]
      exact hk _
    · have hlt : j < es.length := by omega
      obtain ⟨h3, hs, hf, hb⟩ := h j es[j] (ps[j]'(by omega)) (List.getElem?_eq_getElem hlt) (List.getElem?_eq_getElem (by omega))
      have hq : aindex 3 (.sl .exact 3 es) (i64 (j : Nat)) = some (.ip es[j] 0) := aindex_sl (by omega) (by simp [hlt])
      have hld : ∀ X, aload X true 3 (.ip es[j] 0) = some (.agg es[j]) := fun X => by
        simp [aload, apart, h3]
        rw [List.take_of_length_le (by omega)]
      simp [a_bobbinlaw07_programsb1, e5, e6, hlt, hq, hld, -aload]
      refine (p_May hf).sees rfl (one_sees hs) ?_
      rw [hb]
      simp [e5, e6]
      refine ⟨es.length - (j + 1), by omega, j + 1, by omega, rfl, ?_⟩
      rw [wrap_i64 (by omega) (by omega)]; rfl
end
end Go.Proofs.YtanpcmkhhpaeiaaDoor

/- code: a long Fun; which of the examples may be. -/
namespace Go.Proofs.YtanpcmkhhpaeiaaDoor
set_option linter.unusedSimpArgs false
set_option linter.unusedVariables false
open Go Go.Fw

def zero6 : List AV := [u8 0, i64 0, i64 0, i64 0, i64 0, .sl .nil 0 []]
theorem fill_next {n j : Nat} (h : j < n) (a b : List AV) : (List.replicate j a ++ List.replicate (n - j) b).set j a = List.replicate (j + 1) a ++ List.replicate (n - (j + 1)) b := by
  obtain ⟨d, rfl⟩ : ∃ d, n = j + 1 + d := ⟨n - (j + 1), by omega⟩
  rw [show j + 1 + d - j = d + 1 by omega, show j + 1 + d - (j + 1) = d by omega, List.set_append_right _ _ (by simp)]
  simp only [List.length_replicate, Nat.sub_self, List.replicate_succ (n := d), List.set_cons_zero]
  rw [List.replicate_succ' (n := j), List.append_assoc]
  rfl
section
variable {A : Nat → AV} {H : AHeap} {N : Nat} {fs : List Fr} {Q : Post} {o n : Nat}

theorem prg_l (hn : n ≤ 100000) (h2 : A 2 = .ms o 0 n 6) (ho : H o = some (.blk (List.replicate n zero6).flatten)) (hF : Fresh H N) (hoN : o < N)
    (hk : ∀ A', (∀ t ∈ [1, 2], A' t = A t) → onward Tryd.prog fs Q .normal ⟨A', H.set o (.blk (List.replicate n bare13.cells).flatten), N⟩) : run Tryd.prog a_prg_l fs Q ⟨A, H, N⟩ := by
  simp [a_prg_l]
  refine run_loop (fun m s => ∃ j : Nat, j ≤ n ∧ m = n - j ∧ (∀ t ∈ [1, 2], s.A t = A t) ∧ s.A 3 = i64 j ∧ s.H = H.set o (.blk (List.replicate j bare13.cells ++ List.replicate (n - j) zero6).flatten) ∧ s.N = N) n ?_ ?_
  · refine ⟨0, by omega, by omega, by simp, by simp, ?_, rfl⟩
    funext i
    simp only [AHeap.set]
    split
    · rename_i e; subst e; simp [ho]
    · rfl
  · rintro m A1 H1 N1 ⟨j, hj, rfl, ek, e3, rfl, rfl⟩
    simp only at ek e3
    have e1 := ek 1 (by simp)
    have e2 := (ek 2 (by simp)).trans h2
    by_cases hjl : j = n
    · subst hjl
      simp [a_bobbinlaw07_programsb3, e2, e3]
      have := hk (upA (upA (upA (upA A1 12 (i64 j)) 13 (.ms o 0 j 6)) 14 (i64 j)) 15 (bl false)) (by simp [e1, e2, h2])
      simpa using this
    · have hlt : j < n := by omega
      have hq : aindex 6 (.ms o 0 n 6) (i64 (j : Nat)) = some (.mp o (j * 6)) := by simp [aindex, hlt]
      have hsz : ∀ y ∈ List.replicate j bare13.cells ++ List.replicate (n - j) zero6, y.length = 6 := by
        intro y hy
        rcases List.mem_append.1 hy with h | h
        · rw [(List.mem_replicate.1 h).2]; rfl
        · rw [(List.mem_replicate.1 h).2]; rfl
      have hll : (List.replicate j bare13.cells ++ List.replicate (n - j) zero6).length = n := by simp; omega
      have hfl : (List.replicate j bare13.cells ++ List.replicate (n - j) zero6).flatten.length = n * 6 := by rw [flatten_len hsz, hll]
      have hsp : splice (j * 6) bare13.cells (List.replicate j bare13.cells ++ List.replicate (n - j) zero6).flatten = (List.replicate (j + 1) bare13.cells ++ List.replicate (n - (j + 1)) zero6).flatten := by
        rw [← fill_next hlt, ← flat_splice hsz (by rw [hll]; exact hlt), ← List.append_assoc]
        rfl
      have hself : (H.set o (.blk (List.replicate j bare13.cells ++ List.replicate (n - j) zero6).flatten)) o = some (.blk (List.replicate j bare13.cells ++ List.replicate (n - j) zero6).flatten) := by simp [AHeap.set]
      have hset : ∀ b, (H.set o (.blk (List.replicate j bare13.cells ++ List.replicate (n - j) zero6).flatten)).set o b = H.set o b := fun b => by
        funext i; simp only [AHeap.set]; split <;> rfl
      have hb : bare13.cells = [u8 13, i64 0, i64 0, i64 0, i64 0, .sl .nil 0 []] := rfl
      generalize hX : (List.replicate j bare13.cells ++ List.replicate (n - j) zero6).flatten = X at *
      generalize hY : (List.replicate (j + 1) bare13.cells ++ List.replicate (n - (j + 1)) zero6).flatten = Y at *
      rw [hb] at hsp
      simp [a_bobbinlaw07_programsb3, e2, e3, hlt, hq, hself, hfl, hsp, hset, show j * 6 + 6 ≤ n * 6 by omega]
      refine ⟨n - (j + 1), by omega, j + 1, by omega, rfl, ⟨e1, h2.symm⟩, ?_, by rw [← hY, List.flatten_append]⟩
      rw [wrap_i64 (by omega) (by omega)]; rfl
end

/-- A program of one Fun. -/
def funP (f : FunV) : PrgV := ⟨.nil, .nil, .exact, [], [], [f]⟩
def lockP (k : SK) (l : List ByteArray) : PrgV := ⟨.nil, k, .nil, [], l, []⟩
def memP (l : List MemV) : PrgV := ⟨.exact, .nil, .nil, l, [], []⟩
def jmp11 : Ins := ⟨11, 0, 0, 0, 0, .nil, 0, []⟩
def nmF : ByteArray := ⟨#[102]⟩
def nmA : ByteArray := ⟨#[97]⟩
def longF (l : List Ins) : FunV := ⟨nmF, false, 0, 1, .any, l⟩
theorem y0 : prgB (lockP .nil []) = true := by kernel_rfl
theorem y1 : prgB (lockP .any (lnms 256)) = true := by kernel_rfl
theorem y2 : prgB ⟨.nil, .nil, .any, [], [], tfuns 16⟩ = true := by kernel_rfl
theorem y3 : prgB (memP [⟨nmA, 1024, -5⟩]) = true := by kernel_rfl
theorem y4 : prgB (funP ⟨nmF, false, 8, 4096, .exact, [bare13]⟩) = true := by kernel_rfl
theorem y6 : prgB (funP ⟨nmF, false, 0, 0, .exact, [jmp11]⟩) = true := by kernel_rfl
theorem mayB_len {f g : FunV} {k : SK} {p : PrgV} {x : Ins} (h7 : (ofR x.op).n ≠ 7) (h6 : (ofR x.op).n ≠ 6) (hr : f.regs = g.regs) : mayB (funP f) f x = mayB (funP g) g x := by
  unfold mayB mayA numOk
  rw [hr]
  simp [h7, h6, funP]
theorem y5 {n : Nat} (h1 : 1 ≤ n) (h2 : n ≤ 16384) : prgB (funP (longF (List.replicate n bare13))) = true := by
  have hm : mayB (funP (longF (List.replicate n bare13))) (longF (List.replicate n bare13)) bare13 = true := by
    rw [mayB_len (x := bare13) (f := longF (List.replicate n bare13)) (g := longF [bare13]) (k := .nil) (p := funP (longF [])) (by decide) (by decide) rfl]
    kernel_rfl
  have hnm : namedB (funP (longF (List.replicate n bare13))).names = true := by
    show namedB [nmF] = true
    kernel_rfl
  obtain ⟨m, rfl⟩ : ∃ m, n = m + 1 := ⟨n - 1, by omega⟩
  unfold prgB
  simp only [Bool.and_eq_true]
  refine ⟨hnm, ?_, rfl, ?_⟩
  · simp [thrL, funP, longF]
  · show (funB (funP (longF (List.replicate (m + 1) bare13))) (longF (List.replicate (m + 1) bare13)) && true) = true
    rw [Bool.and_true]
    unfold funB
    simp only [Bool.and_eq_true, List.all_eq_true]
    refine ⟨?_, ?_, fun x hx => ?_⟩
    · simp only [longF, List.length_replicate, decide_eq_true_eq]
      refine ⟨by decide, by decide, by simp, by decide, by decide, by omega, by omega⟩
    · simp only [lastB, longF]
      rw [List.getLast?_replicate]
      simp [bare13]
    · rw [(List.mem_replicate.1 hx).2]
      exact hm
theorem n_long {n : Nat} (h : 16384 < n) : prgB (funP (longF (List.replicate n bare13))) = false := by
  refine Bool.eq_false_iff.2 fun hb => ?_
  unfold prgB at hb
  simp only [Bool.and_eq_true] at hb
  have := hb.2.2.2
  have h2 : (funB (funP (longF (List.replicate n bare13))) (longF (List.replicate n bare13)) && true) = true := this
  rw [Bool.and_true] at h2
  unfold funB at h2
  simp only [Bool.and_eq_true, decide_eq_true_eq] at h2
  have := h2.1.2.2.2.2.2.2
  simp only [longF, List.length_replicate] at this
  omega
end Go.Proofs.YtanpcmkhhpaeiaaDoor

/- code: what the examples that may not be read as. -/
namespace Go.Fw
set_option linter.unusedSimpArgs false
set_option linter.unusedVariables false
set_option linter.unusedSectionVars false
variable [Globals]
open Go

theorem SeesAs.sl {H : AHeap} {k : SK} {sz : Nat} {es fs : List (List AV)} (hl : es.length = fs.length) (hl2 : ∀ (i : Nat) (x y : List AV), es[i]? = some x → fs[i]? = some y → x.length = y.length)
    (h : ∀ (i j : Nat) (x y : List AV) (c d : AV), es[i]? = some x → fs[i]? = some y → x[j]? = some c → y[j]? = some d → SeesAs H c d) : SeesAs H (.sl k sz es) (.sl k sz fs) := fun e v hH hr => by
  rcases rep_sl_inv hr with ⟨rfl, hes, rfl⟩ | ⟨hk, b, o, cap, rfl, hcap, hex, hI, hsz, hm⟩ | ⟨hk, hes, ad, rfl⟩
  rotate_right
  · have : fs = [] := List.eq_nil_of_length_eq_zero (by rw [← hl, hes]; rfl)
    subst this
    exact .slE hk
  · have : fs = [] := List.eq_nil_of_length_eq_zero (by rw [← hl, hes]; rfl)
    subst this
    exact .slNil sz
  · rw [hl]
    refine rep_sl_intro (e := e.still H e.ρ e.N) hk (fun hne => .inl (hI (fun h0 => hne (List.eq_nil_of_length_eq_zero (by rw [← hl, h0]; rfl))))) (by omega) (fun hx => by rw [← hl]; exact hex hx) (fun y hy => ?_) (fun i y hi j d hj => ?_)
    · obtain ⟨i, hi, hy'⟩ := List.getElem_of_mem hy
      have hyi : fs[i]? = some y := by simp [hi, hy']
      obtain ⟨x, hx⟩ := get_of_len hl hyi
      rw [← hl2 i x y hx hyi]
      exact hsz x (List.mem_of_getElem? hx)
    · obtain ⟨x, hx⟩ := get_of_len hl hi
      obtain ⟨c, hc⟩ := get_of_len (hl2 i x y hx hi) hj
      obtain ⟨u, h1, h2, h3⟩ := hm i x hx j c hc
      exact ⟨u, h1, h2, h i j x y c d hx hi hc hj e u hH h3⟩
end Go.Fw
namespace Go.Proofs.YtanpcmkhhpaeiaaDoor
set_option linter.unusedSimpArgs false
set_option linter.unusedVariables false
open Go Go.Fw

theorem sees3 {H : AHeap} {a b c a' b' c' : AV} (h0 : SeesAs H a a') (h1 : SeesAs H b b') (h2 : SeesAs H c c') : SeesAs H (.agg [a, b, c]) (.agg [a', b', c']) := by
  refine .agg rfl fun i x y hx hy => ?_
  match i, hx, hy with
  | 0, hx, hy => cases hx; cases hy; exact h0
  | 1, hx, hy => cases hx; cases hy; exact h1
  | 2, hx, hy => cases hx; cases hy; exact h2
  | i + 3, hx, hy => cases hx
/-- A program of one Fun, whose code lies anywhere. -/
theorem sees_fun {H : AHeap} {f : FunV} {v : AV} (h : SeesAs H v (.sl f.k 6 (codeCells f.code))) :
    SeesAs H (.agg [.sl .nil 0 [], .sl .nil 0 [], .sl .exact 5 [[str f.name, bl f.thread, i64 f.params, i64 f.regs, v]]]) (.agg (funP f).cells) := by
  refine sees3 (SeesAs.nil 0 3) (SeesAs.nil 0 1) (SeesAs.sl rfl (fun i x y hx hy => ?_) fun i j x y c d hx hy hc hd => ?_)
  · match i, hx, hy with
    | 0, hx, hy => cases hx; cases hy; rfl
    | i + 1, hx, hy => cases hx
  · match i, hx, hy with
    | 0, hx, hy =>
      cases hx; cases hy
      match j, hc, hd with
      | 0, hc, hd => cases hc; cases hd; exact .refl _
      | 1, hc, hd => cases hc; cases hd; exact .refl _
      | 2, hc, hd => cases hc; cases hd; exact .refl _
      | 3, hc, hd => cases hc; cases hd; exact .refl _
      | 4, hc, hd => cases hc; cases hd; exact h
      | j + 5, hc, hd => cases hc
    | i + 1, hx, hy => cases hx

theorem n0 : prgB (lockP .any (lnms 257)) = false := by kernel_rfl
theorem n1 : prgB ⟨.nil, .nil, .any, [], [], tfuns 17⟩ = false := by kernel_rfl
theorem n2 : prgB (memP [⟨nmA, 1025, 0⟩]) = false := by kernel_rfl
theorem n3 : prgB (memP [⟨nmA, 0, 0⟩]) = false := by kernel_rfl
theorem n4 : prgB (lockP .exact [⟨#[105, 102]⟩]) = false := by kernel_rfl
theorem n5 : prgB (lockP .exact [nmA, nmA]) = false := by kernel_rfl
theorem n6 : prgB ⟨.exact, .exact, .nil, [⟨nmA, 1, 0⟩], [nmA], []⟩ = false := by kernel_rfl
theorem n7 : prgB ⟨.nil, .exact, .exact, [], [nmF], [⟨nmF, false, 0, 1, .exact, [bare13]⟩]⟩ = false := by kernel_rfl
theorem n8 : prgB (funP ⟨nmF, false, 9, 9, .exact, [bare13]⟩) = false := by kernel_rfl
theorem n9 : prgB (funP ⟨nmF, false, -1, 1, .exact, [bare13]⟩) = false := by kernel_rfl
theorem n10 : prgB (funP ⟨nmF, false, 2, 1, .exact, [bare13]⟩) = false := by kernel_rfl
theorem n11 : prgB (funP ⟨nmF, true, 1, 1, .exact, [bare13]⟩) = false := by kernel_rfl
theorem n12 : prgB (funP ⟨nmF, false, 0, 4097, .exact, [bare13]⟩) = false := by kernel_rfl
theorem n13 : prgB (funP ⟨nmF, false, 0, 0, .exact, [bare13]⟩) = false := by kernel_rfl
theorem n14 : prgB (funP ⟨nmF, false, 0, 1, .nil, []⟩) = false := by kernel_rfl
theorem n16 : prgB (funP ⟨nmF, false, 0, 1, .exact, [⟨9, 0, 0, 0, 0, .nil, 0, []⟩]⟩) = false := by kernel_rfl
theorem n17 : prgB (funP ⟨nmF, false, 0, 1, .exact, [bare13, ⟨99, 0, 0, 0, 0, .nil, 0, []⟩, bare13]⟩) = false := by kernel_rfl
theorem n18 : prgB (funP ⟨⟨#[]⟩, false, 0, 1, .exact, [bare13]⟩) = false := by kernel_rfl
end Go.Proofs.YtanpcmkhhpaeiaaDoor

/- code: the programs that may be, laid. -/
namespace Go.Proofs.YtanpcmkhhpaeiaaDoor
set_option linter.unusedSimpArgs false
set_option linter.unusedVariables false
open Go Go.Fw
section
variable {A : Nat → AV} {H : AHeap} {N : Nat} {fs : List Fr} {Q : Post} {o : Nat}
def yesL : List PrgV := [lockP .nil [], lockP .any (lnms 256), ⟨.nil, .nil, .any, [], [], tfuns 16⟩, memP [⟨nmA, 1024, -5⟩], funP ⟨nmF, false, 8, 4096, .exact, [bare13]⟩, funP (longF (List.replicate 16384 bare13)), funP ⟨nmF, false, 0, 0, .exact, [jmp11]⟩]

theorem prg_y (h1 : A 1 = .sl .exact 6 [bare13.cells]) (h2 : A 2 = .ms o 0 16384 6) (h4 : A 4 = .fn (.func 43) [] []) (hoN : o < N) (hF : Fresh H N)
    (hk : ∀ A' H' N', N ≤ N' → Fresh H' N' → (∀ j, j < N → H' j = H j) → A' 5 = .sl .exact 3 [[.sl .nil 0 [], .sl .nil 0 [], .sl .nil 0 []], [.sl .nil 0 [], .sl .any 1 (strCells (lnms 256)), .sl .nil 0 []], [.sl .nil 0 [], .sl .nil 0 [], .sl .any 5 (funCells (tfuns 16))],
      [.sl .exact 3 [[str nmA, i64 1024, i64 (-5)]], .sl .nil 0 [], .sl .nil 0 []], [.sl .nil 0 [], .sl .nil 0 [], .sl .exact 5 [[str nmF, bl false, i64 8, i64 4096, .sl .exact 6 [bare13.cells]]]],
      [.sl .nil 0 [], .sl .nil 0 [], .sl .exact 5 [[str nmF, bl false, i64 0, i64 1, .ms o 0 16384 6]]], [.sl .nil 0 [], .sl .nil 0 [], .sl .exact 5 [[str nmF, bl false, i64 0, i64 0, .sl .exact 6 [jmp11.cells]]]]] →
      (∀ t ∈ [1, 2, 4], A' t = A t) → onward Tryd.prog fs Q .normal ⟨A', H', N'⟩) : run Tryd.prog a_prg_y fs Q ⟨A, H, N⟩ := by
  simp [a_prg_y, h1, h2, h4, splice]
  refine (p_lnamed (n := 256) (by omega) (by omega)).acall ?_
  generalize hL : strCells (lnms 256) = L
  rw [hL] at hk
  simp
  refine (p_threadsN (n := 16) (by omega) (by omega)).acall ?_
  generalize hT : funCells (tfuns 16) = T
  rw [hT] at hk
  simp [h1, h2, h4, splice]
  refine (p_funA _ _).monoF ?_
  rintro r1 H1 N1 ⟨rfl, hN1, hk1⟩ hF1 _
  simp [h1, h2, h4, splice]
  refine (p_funA _ _).monoF ?_
  rintro r2 H2 N2 ⟨rfl, hN2, hk2⟩ hF2 _
  simp [h1, h2, h4, splice]
  refine (p_funA _ _).monoF ?_
  rintro r3 H3 N3 ⟨rfl, hN3, hk3⟩ hF3 _
  simp [h1, h2, h4, splice]
  refine hk _ _ _ (by omega) hF3 (fun j hj => ((hk3 j (by omega)).trans (hk2 j (by omega))).trans (hk1 j hj)) ?_ (by simp [h1, h2, h4])
  simp
  exact ⟨rfl, rfl, rfl⟩
end

def insFitB (x : Ins) : Bool := decide (0 ≤ x.op ∧ x.op < 256) && x.args.isEmpty
def fitB (p : PrgV) : Bool := decide (p.mems.length + p.locks.length + p.funs.length ≤ 1000) && (p.names.all (fun s => decide (s.size ≤ 1000)) && p.funs.all fun f => decide (f.code.length ≤ 20000) && f.code.all insFitB)
theorem fit_of {p : PrgV} (h : fitB p = true) : p.Fit := by
  unfold fitB at h
  simp only [Bool.and_eq_true, decide_eq_true_eq, List.all_eq_true] at h
  obtain ⟨h1, h2, h3⟩ := h
  refine ⟨by omega, fun s hs => by have := h2 s hs; omega, fun f hf => by have := (h3 f hf).1; omega, fun f hf x hx => ?_⟩
  have := (h3 f hf).2 x hx
  unfold insFitB at this
  simp only [Bool.and_eq_true, decide_eq_true_eq, List.isEmpty_iff] at this
  exact ⟨⟨this.1.1, this.1.2, by rw [this.2]; exact Nat.zero_le _, .inr this.2⟩, by rw [this.2]; exact Nat.zero_le _⟩
theorem fit_long {n : Nat} (h : n ≤ 20000) : (funP (longF (List.replicate n bare13))).Fit := by
  refine fit_of ?_
  unfold fitB
  simp only [Bool.and_eq_true, List.all_eq_true, decide_eq_true_eq]
  refine ⟨by simp [funP], fun s hs => ?_, fun f hf => ?_⟩
  · have : s ∈ [nmF] := hs
    rw [List.mem_singleton.1 this]
    decide
  · have : f ∈ [longF (List.replicate n bare13)] := hf
    rw [List.mem_singleton.1 this]
    refine ⟨by simp [longF, h], fun x hx => ?_⟩
    rw [(List.mem_replicate.1 hx).2]
    rfl

theorem nilS {H : AHeap} (z : Nat) : SeesAs H (.sl .nil 0 []) (.sl .nil z []) := .nil 0 z
theorem cells_rep (n : Nat) (x : Ins) : codeCells (List.replicate n x) = List.replicate n x.cells := by simp [codeCells]
theorem sees_long {H : AHeap} {o n : Nat} (ho : H o = some (.blk (List.replicate n bare13.cells).flatten)) : SeesAs H (.ms o 0 n 6) (.sl .any 6 (codeCells (List.replicate n bare13))) := by
  refine View.sees (view_flat (codeCells_sz _) (codeCells_free _) (by simp [codeCells]) ?_)
  rw [cells_rep]
  exact ho
theorem yes_progs {H : AHeap} {o : Nat} (ho : H o = some (.blk (List.replicate 16384 bare13.cells).flatten)) :
    Progs H [[.sl .nil 0 [], .sl .nil 0 [], .sl .nil 0 []], [.sl .nil 0 [], .sl .any 1 (strCells (lnms 256)), .sl .nil 0 []], [.sl .nil 0 [], .sl .nil 0 [], .sl .any 5 (funCells (tfuns 16))],
      [.sl .exact 3 [[str nmA, i64 1024, i64 (-5)]], .sl .nil 0 [], .sl .nil 0 []], [.sl .nil 0 [], .sl .nil 0 [], .sl .exact 5 [[str nmF, bl false, i64 8, i64 4096, .sl .exact 6 [bare13.cells]]]],
      [.sl .nil 0 [], .sl .nil 0 [], .sl .exact 5 [[str nmF, bl false, i64 0, i64 1, .ms o 0 16384 6]]], [.sl .nil 0 [], .sl .nil 0 [], .sl .exact 5 [[str nmF, bl false, i64 0, i64 0, .sl .exact 6 [jmp11.cells]]]]] yesL true := by
  refine ⟨rfl, fun i c p hc hp => ?_⟩
  match i, hc, hp with
  | 0, hc, hp => cases hc; cases hp; exact ⟨rfl, sees3 (nilS 3) (nilS 1) (nilS 5), fit_of (by kernel_rfl), y0⟩
  | 1, hc, hp => cases hc; cases hp; exact ⟨rfl, sees3 (nilS 3) (.refl _) (nilS 5), fit_of (by kernel_rfl), y1⟩
  | 2, hc, hp => cases hc; cases hp; exact ⟨rfl, sees3 (nilS 3) (nilS 1) (.refl _), fit_of (by kernel_rfl), y2⟩
  | 3, hc, hp => cases hc; cases hp; exact ⟨rfl, sees3 (.refl _) (nilS 1) (nilS 5), fit_of (by kernel_rfl), y3⟩
  | 4, hc, hp => cases hc; cases hp; exact ⟨rfl, sees_fun (f := ⟨nmF, false, 8, 4096, .exact, [bare13]⟩) (.refl _), fit_of (by kernel_rfl), y4⟩
  | 5, hc, hp => cases hc; cases hp; exact ⟨rfl, sees_fun (f := longF (List.replicate 16384 bare13)) (sees_long ho), fit_long (by omega), y5 (by omega) (by omega)⟩
  | 6, hc, hp => cases hc; cases hp; exact ⟨rfl, sees_fun (f := ⟨nmF, false, 0, 0, .exact, [jmp11]⟩) (.refl _), fit_of (by kernel_rfl), y6⟩
  | i + 7, hc, hp => cases hc
end Go.Proofs.YtanpcmkhhpaeiaaDoor

/- code: parts that lie side by side. -/
namespace Go.Fw
set_option linter.unusedSimpArgs false
set_option linter.unusedVariables false
open Go

/-- Rows of three cells, side by side. -/
def side3 : Nat → List (List AV) → List (Nat × Nat × AV)
  | _, [] => []
  | off, r :: rs => (off, 3, .agg r) :: side3 (off + 3) rs
theorem afill_side3 : ∀ (rows : List (List AV)) (done zs : List AV), (∀ r ∈ rows, r.length = 3) → zs.length = rows.length * 3 → afill (side3 done.length rows) (done ++ zs) = some (done ++ rows.flatten)
  | [], done, zs, _, hz => by
    have : zs = [] := List.eq_nil_of_length_eq_zero (by simpa using hz)
    subst this
    rfl
  | r :: rs, done, zs, h, hz => by
    have hr := h r (by simp)
    match r, hr with
    | [a, b, c], _ =>
      match zs, hz with
      | x :: y :: z :: zs, hz =>
        have hz' : zs.length = rs.length * 3 := by simp at hz; omega
        have ih := afill_side3 rs (done ++ [a, b, c]) zs (fun r hr => h r (by simp [hr])) hz'
        have e : splice done.length [a, b, c] (done ++ x :: y :: z :: zs) = done ++ [a, b, c] ++ zs := by
          show (done ++ x :: y :: z :: zs).take done.length ++ [a, b, c] ++ (done ++ x :: y :: z :: zs).drop (done.length + 3) = _
          rw [List.take_left', List.drop_append]
          · simp
          · rfl
        simp only [side3, afill, AV.cells]
        rw [if_pos ⟨rfl, by simp⟩, e]
        have e2 : (done ++ [a, b, c]).length = done.length + 3 := by simp
        rw [e2] at ih
        rw [ih]
        simp
      | [], hz => simp at hz
      | [_], hz => simp at hz; omega
      | [_, _], hz => simp at hz; omega
end Go.Fw

/- code: the programs that may not be, laid; all of them. -/
namespace Go.Proofs.YtanpcmkhhpaeiaaDoor
set_option linter.unusedSimpArgs false
set_option linter.unusedVariables false
open Go Go.Fw
def n0' : AV := .sl .nil 0 []
def oneF (cs : List AV) : List AV := [n0', n0', .sl .exact 5 [cs]]
def backV : AV := .sl .exact 6 [bare13.cells]
def prtI : Ins := ⟨9, 0, 0, 0, 0, .nil, 0, []⟩
def badI : Ins := ⟨99, 0, 0, 0, 0, .nil, 0, []⟩
def nmIf : ByteArray := ⟨#[105, 102]⟩
def noE (L : List (List AV)) (T : List (List AV)) (id : Nat) : List (List AV) :=
  [[n0', .sl .any 1 L, n0'], [n0', n0', .sl .any 5 T], [.sl .exact 3 [[str nmA, i64 1025, i64 0]], n0', n0'], [.sl .exact 3 [[str nmA, i64 0, i64 0]], n0', n0'],
   [n0', .sl .exact 1 [[str nmIf]], n0'], [n0', .sl .exact 1 [[str nmA], [str nmA]], n0'], [.sl .exact 3 [[str nmA, i64 1, i64 0]], .sl .exact 1 [[str nmA]], n0'],
   [n0', .sl .exact 1 [[str nmF]], .sl .exact 5 [[str nmF, bl false, i64 0, i64 1, backV]]],
   oneF [str nmF, bl false, i64 9, i64 9, backV], oneF [str nmF, bl false, i64 (-1), i64 1, backV], oneF [str nmF, bl false, i64 2, i64 1, backV], oneF [str nmF, bl true, i64 1, i64 1, backV],
   oneF [str nmF, bl false, i64 0, i64 4097, backV], oneF [str nmF, bl false, i64 0, i64 0, backV], oneF [str nmF, bl false, i64 0, i64 1, n0'], oneF [str nmF, bl false, i64 0, i64 1, .ms id 0 16385 6],
   oneF [str nmF, bl false, i64 0, i64 1, .sl .exact 6 [prtI.cells]], oneF [str nmF, bl false, i64 0, i64 1, .sl .exact 6 [bare13.cells, badI.cells, bare13.cells]], oneF [str ⟨#[]⟩, bl false, i64 0, i64 1, backV]]
def noL : List PrgV :=
  [lockP .any (lnms 257), ⟨.nil, .nil, .any, [], [], tfuns 17⟩, memP [⟨nmA, 1025, 0⟩], memP [⟨nmA, 0, 0⟩], lockP .exact [nmIf], lockP .exact [nmA, nmA], ⟨.exact, .exact, .nil, [⟨nmA, 1, 0⟩], [nmA], []⟩,
   ⟨.nil, .exact, .exact, [], [nmF], [⟨nmF, false, 0, 1, .exact, [bare13]⟩]⟩, funP ⟨nmF, false, 9, 9, .exact, [bare13]⟩, funP ⟨nmF, false, -1, 1, .exact, [bare13]⟩, funP ⟨nmF, false, 2, 1, .exact, [bare13]⟩, funP ⟨nmF, true, 1, 1, .exact, [bare13]⟩,
   funP ⟨nmF, false, 0, 4097, .exact, [bare13]⟩, funP ⟨nmF, false, 0, 0, .exact, [bare13]⟩, funP ⟨nmF, false, 0, 1, .nil, []⟩, funP (longF (List.replicate 16385 bare13)), funP ⟨nmF, false, 0, 1, .exact, [prtI]⟩, funP ⟨nmF, false, 0, 1, .exact, [bare13, badI, bare13]⟩, funP ⟨⟨#[]⟩, false, 0, 1, .exact, [bare13]⟩]
def noZ : List AV := [n0', n0', n0', n0', n0', n0', n0', n0', n0', n0', n0', n0', n0', n0', n0', n0', n0', n0', n0', n0', n0', n0', n0', n0', n0', n0', n0', n0', n0', n0', n0', n0', n0', n0', n0', n0', n0', n0', n0', n0', n0', n0', n0', n0', n0', n0', n0', n0', n0', n0', n0', n0', n0', n0', n0', n0', n0']
theorem noE_sz (L T : List (List AV)) (id : Nat) : ∀ r ∈ noE L T id, r.length = 3 := by
  intro r hr
  simp only [noE, oneF, List.mem_cons, List.not_mem_nil, or_false] at hr
  rcases hr with rfl | rfl | rfl | rfl | rfl | rfl | rfl | rfl | rfl | rfl | rfl | rfl | rfl | rfl | rfl | rfl | rfl | rfl | rfl <;> rfl
theorem no_progs {H : AHeap} {o : Nat} (ho : H o = some (.blk (List.replicate 16385 bare13.cells).flatten)) : Progs H (noE (strCells (lnms 257)) (funCells (tfuns 17)) o) noL false := by
  refine ⟨rfl, fun i c p hc hp => ?_⟩
  match i, hc, hp with
  | 0, hc, hp => cases hc; cases hp; exact ⟨rfl, sees3 (nilS 3) (.refl _) (nilS 5), fit_of (by kernel_rfl), n0⟩
  | 1, hc, hp => cases hc; cases hp; exact ⟨rfl, sees3 (nilS 3) (nilS 1) (.refl _), fit_of (by kernel_rfl), n1⟩
  | 2, hc, hp => cases hc; cases hp; exact ⟨rfl, sees3 (.refl _) (nilS 1) (nilS 5), fit_of (by kernel_rfl), n2⟩
  | 3, hc, hp => cases hc; cases hp; exact ⟨rfl, sees3 (.refl _) (nilS 1) (nilS 5), fit_of (by kernel_rfl), n3⟩
  | 4, hc, hp => cases hc; cases hp; exact ⟨rfl, sees3 (nilS 3) (.refl _) (nilS 5), fit_of (by kernel_rfl), n4⟩
  | 5, hc, hp => cases hc; cases hp; exact ⟨rfl, sees3 (nilS 3) (.refl _) (nilS 5), fit_of (by kernel_rfl), n5⟩
  | 6, hc, hp => cases hc; cases hp; exact ⟨rfl, sees3 (.refl _) (.refl _) (nilS 5), fit_of (by kernel_rfl), n6⟩
  | 7, hc, hp => cases hc; cases hp; exact ⟨rfl, sees3 (nilS 3) (.refl _) (.refl _), fit_of (by kernel_rfl), n7⟩
  | 8, hc, hp => cases hc; cases hp; exact ⟨rfl, sees_fun (f := ⟨nmF, false, 9, 9, .exact, [bare13]⟩) (.refl _), fit_of (by kernel_rfl), n8⟩
  | 9, hc, hp => cases hc; cases hp; exact ⟨rfl, sees_fun (f := ⟨nmF, false, -1, 1, .exact, [bare13]⟩) (.refl _), fit_of (by kernel_rfl), n9⟩
  | 10, hc, hp => cases hc; cases hp; exact ⟨rfl, sees_fun (f := ⟨nmF, false, 2, 1, .exact, [bare13]⟩) (.refl _), fit_of (by kernel_rfl), n10⟩
  | 11, hc, hp => cases hc; cases hp; exact ⟨rfl, sees_fun (f := ⟨nmF, true, 1, 1, .exact, [bare13]⟩) (.refl _), fit_of (by kernel_rfl), n11⟩
  | 12, hc, hp => cases hc; cases hp; exact ⟨rfl, sees_fun (f := ⟨nmF, false, 0, 4097, .exact, [bare13]⟩) (.refl _), fit_of (by kernel_rfl), n12⟩
  | 13, hc, hp => cases hc; cases hp; exact ⟨rfl, sees_fun (f := ⟨nmF, false, 0, 0, .exact, [bare13]⟩) (.refl _), fit_of (by kernel_rfl), n13⟩
  | 14, hc, hp => cases hc; cases hp; exact ⟨rfl, sees_fun (f := ⟨nmF, false, 0, 1, .nil, []⟩) (nilS 6), fit_of (by kernel_rfl), n14⟩
  | 15, hc, hp => cases hc; cases hp; exact ⟨rfl, sees_fun (f := longF (List.replicate 16385 bare13)) (sees_long ho), fit_long (by omega), n_long (by omega)⟩
  | 16, hc, hp => cases hc; cases hp; exact ⟨rfl, sees_fun (f := ⟨nmF, false, 0, 1, .exact, [prtI]⟩) (.refl _), fit_of (by kernel_rfl), n16⟩
  | 17, hc, hp => cases hc; cases hp; exact ⟨rfl, sees_fun (f := ⟨nmF, false, 0, 1, .exact, [bare13, badI, bare13]⟩) (.refl _), fit_of (by kernel_rfl), n17⟩
  | 18, hc, hp => cases hc; cases hp; exact ⟨rfl, sees_fun (f := ⟨⟨#[]⟩, false, 0, 1, .exact, [bare13]⟩) (.refl _), fit_of (by kernel_rfl), n18⟩
  | i + 19, hc, hp => cases hc

section
variable {A : Nat → AV} {H : AHeap} {N : Nat} {fs : List Fr} {Q : Post} {o : Nat}
theorem splice1 (off : Nat) (c : AV) (cs : List AV) : splice off [c] cs = cs.set off c := rfl
theorem splice3 (off : Nat) (a b c : AV) (cs : List AV) : splice off [a, b, c] cs = cs.take off ++ [a, b, c] ++ cs.drop (off + 3) := rfl
theorem splice5 (off : Nat) (a b c d e : AV) (cs : List AV) : splice off [a, b, c, d, e] cs = cs.take off ++ [a, b, c, d, e] ++ cs.drop (off + 5) := rfl
theorem splice6 (off : Nat) (a b c d e f : AV) (cs : List AV) : splice off [a, b, c, d, e, f] cs = cs.take off ++ [a, b, c, d, e, f] ++ cs.drop (off + 6) := rfl
theorem bslice_side3 {s : St} {parts : List (Nat × Nat × AX)} {rows : List (List AV)} {zs : List AV} {n : Nat} (hp : (parts.map fun x => (x.1, x.2.1, s.ev x.2.2)) = side3 0 rows) (hr : ∀ r ∈ rows, r.length = 3) (hn : rows.length = n) (hz : zs.length = n * 3) :
    aop (.bslice false 3 n zs parts) s = some (.sl .exact 3 rows, s.H, s.N) := by
  have hf := afill_side3 rows [] zs hr (by rw [hz, hn])
  simp only [List.length_nil, List.nil_append] at hf
  subst hn
  simp only [aop, hp, hf, Go.Fw.chunks_flatten hr]
  rfl
def prgT : List Nat := [54, 55, 58, 61, 63, 65, 69, 74, 78, 82, 86, 90, 94, 98, 101, 107, 112, 119, 123]
theorem prg_n1 {c : List AOper} (hc : o_prg1 = c) {L T : List (List AV)} {id : Nat} (h : prgT.map A = (noE L T id).map .agg) (hk : ∀ A', A' 7 = .sl .exact 3 (noE L T id) → onward Tryd.prog fs Q .normal ⟨A', H, N⟩) : runOps Tryd.prog c fs Q ⟨A, H, N⟩ := by
  subst hc
  have ho : ∃ zs parts, o_prg1 = [⟨some 124, .bslice false 3 19 zs parts, none⟩, ⟨some 7, .val (.tmp 124), none⟩] ∧ zs.length = 19 * 3 ∧ (parts.map fun x => (x.1, x.2.1, (⟨A, H, N⟩ : St).ev x.2.2)) = side3 0 (noE L T id) := by
    refine ⟨_, _, rfl, rfl, ?_⟩
    simp only [prgT, noE, oneF, List.map_cons, List.map_nil, List.cons.injEq, and_true] at h
    obtain ⟨h1, h2, h3, h4, h5, h6, h7, h8, h9, h10, h11, h12, h13, h14, h15, h16, h17, h18, h19⟩ := h
    simp only [noE, oneF, side3, List.map_cons, List.map_nil, St.ev, h1, h2, h3, h4, h5, h6, h7, h8, h9, h10, h11, h12, h13, h14, h15, h16, h17, h18, h19, Nat.zero_add, Nat.reduceAdd]
  obtain ⟨zs, parts, e, hz, hp⟩ := ho
  rw [e]
  show thenK Tryd.prog (aop (.bslice false 3 19 zs parts) ⟨A, H, N⟩) (some 124) _ fs Q ⟨A, H, N⟩
  rw [bslice_side3 (n := 19) hp (noE_sz L T id) rfl hz]
  simp
  exact hk _ (by simp)
set_option maxHeartbeats 1000000 in
theorem prg_n {c : ACode} (hc : a_prg_n = c) (h1 : A 1 = .sl .exact 6 [bare13.cells]) (h2 : A 2 = .ms o 0 16384 6) (h4 : A 4 = .fn (.func 43) [] []) (ho : H o = some (.blk (List.replicate 16384 bare13.cells).flatten)) (hoN : o < N)
    (hk : ∀ A' H' N' id, H' id = some (.blk (List.replicate 16385 bare13.cells).flatten) → A' 7 = .sl .exact 3 (noE (strCells (lnms 257)) (funCells (tfuns 17)) id) → onward Tryd.prog fs Q .normal ⟨A', H', N'⟩) : run Tryd.prog c fs Q ⟨A, H, N⟩ := by
  subst hc
  obtain ⟨d1, e1⟩ : ∃ d, o_prg1 = d := ⟨_, rfl⟩
  unfold a_prg_n
  rw [e1]
  simp [run_append, o_prg0, h1, h2, h4, splice1, splice3, splice5, splice6]
  refine (p_lnamed (n := 257) (by omega) (by omega)).acall ?_
  generalize hL : strCells (lnms 257) = L
  rw [hL] at hk
  simp
  refine (p_threadsN (n := 17) (by omega) (by omega)).acall ?_
  generalize hT : funCells (tfuns 17) = T
  rw [hT] at hk
  simp [h1, h2, h4, splice1, splice3, splice5, splice6]
  refine (p_funA _ _).mono ?_
  rintro r1 H1 N1 ⟨rfl, hN1, hk1⟩
  simp [h1, h2, h4, splice1, splice3, splice5, splice6]
  refine (p_funA _ _).mono ?_
  rintro r2 H2 N2 ⟨rfl, hN2, hk2⟩
  simp [h1, h2, h4, splice1, splice3, splice5, splice6]
  refine (p_funA _ _).mono ?_
  rintro r3 H3 N3 ⟨rfl, hN3, hk3⟩
  simp [h1, h2, h4, splice1, splice3, splice5, splice6]
  refine (p_funA _ _).mono ?_
  rintro r4 H4 N4 ⟨rfl, hN4, hk4⟩
  simp [h1, h2, h4, splice1, splice3, splice5, splice6]
  refine (p_funA _ _).mono ?_
  rintro r5 H5 N5 ⟨rfl, hN5, hk5⟩
  simp [h1, h2, h4, splice1, splice3, splice5, splice6]
  refine (p_funA _ _).mono ?_
  rintro r6 H6 N6 ⟨rfl, hN6, hk6⟩
  simp [h1, h2, h4, splice1, splice3, splice5, splice6]
  refine (p_funA _ _).mono ?_
  rintro r7 H7 N7 ⟨rfl, hN7, hk7⟩
  have ho7 : H7 o = some (.blk (List.replicate 16384 bare13.cells).flatten) := (hk7 o (by omega)).trans ((hk6 o (by omega)).trans ((hk5 o (by omega)).trans ((hk4 o (by omega)).trans ((hk3 o (by omega)).trans ((hk2 o (by omega)).trans ((hk1 o hoN).trans ho))))))
  have hlen : (List.replicate 16384 bare13.cells).flatten.length = 16384 * 6 := by
    rw [flatten_len (sz := 6) (fun y hy => by rw [(List.mem_replicate.1 hy).2]; rfl), List.length_replicate]
  have happ : aappend false 6 64 H7 N7 (.ms o 0 16384 6) (.sl .exact 6 [bare13.cells]) = some (.ms N7 0 16385 6, (H7.del o).set N7 (.blk (List.replicate 16385 bare13.cells).flatten), N7 + 1) := by
    have e : (List.replicate 16384 bare13.cells).flatten ++ bare13.cells = (List.replicate 16385 bare13.cells).flatten := by
      rw [List.replicate_succ' (n := 16384), List.flatten_append]
      simp only [List.flatten_cons, List.flatten_nil, List.append_nil]
    generalize (List.replicate 16384 bare13.cells).flatten = X at ho7 hlen e
    generalize (List.replicate 16385 bare13.cells).flatten = Y at e
    subst e
    simp only [aappend, asrc, ho7]
    have h9 : X.take (16384 * 6) = X := List.take_of_length_le (by omega)
    simp [hlen, lim, h9]
  obtain ⟨Y, hY⟩ : ∃ Y, (List.replicate 16385 bare13.cells).flatten = Y := ⟨_, rfl⟩
  rw [hY] at happ hk
  clear ho ho7 hlen
  simp [h1, h2, h4, splice1, splice3, splice5, splice6, happ]
  refine (p_funA _ _).mono ?_
  rintro r8 H8 N8 ⟨rfl, hN8, hk8⟩
  simp [h1, h2, h4, splice1, splice3, splice5, splice6]
  refine (p_funA _ _).mono ?_
  rintro r9 H9 N9 ⟨rfl, hN9, hk9⟩
  simp [h1, h2, h4, splice1, splice3, splice5, splice6]
  refine (p_funA _ _).mono ?_
  rintro r10 H10 N10 ⟨rfl, hN10, hk10⟩
  simp [h1, h2, h4, splice1, splice3, splice5, splice6]
  refine (p_funA _ _).mono ?_
  rintro r11 H11 N11 ⟨rfl, hN11, hk11⟩
  have hid : H11 N7 = some (.blk Y) := (hk11 N7 (by omega)).trans ((hk10 N7 (by omega)).trans ((hk9 N7 (by omega)).trans ((hk8 N7 (by omega)).trans (by simp only [AHeap.set, if_true]))))
  simp [h1, h2, h4, splice1, splice3, splice5, splice6]
  refine prg_n1 e1 (L := L) (T := T) (id := N7) ?_ fun A' h7 => hk _ _ _ N7 hid h7
  simp [prgT, noE, oneF, n0', backV, nmA, nmIf, nmF, bare13, Ins.cells, prtI, badI, intCells]
end
end Go.Proofs.YtanpcmkhhpaeiaaDoor
