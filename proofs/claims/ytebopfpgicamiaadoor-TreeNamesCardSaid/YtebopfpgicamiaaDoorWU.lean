/- tree: straight operations on literals and on boxes that are known, run by the kernel; regions of such, with one slice made, that draw their order. -/
import Derived.Test.YtebopfpgicamiaaDoorK0
import Derived.Test.YtebopfpgicamiaaDoorM6
namespace Go.Fw
set_option linter.unusedSimpArgs false
set_option linter.unusedVariables false
set_option linter.unusedSectionVars false
variable [Globals]
open Go

/-- What is known of the temporaries. -/
def lookT (l : List (Nat × AV)) (t : Nat) : Option AV := match l with
  | [] => none
  | (k, v) :: r => if k = t then some v else lookT r t
/-- What lies in the boxes to which they point. -/
def lookB (l : List (Nat × List AV)) (t : Nat) : Option (List AV) := match l with
  | [] => none
  | (k, v) :: r => if k = t then some v else lookB r t
def evL (l : List (Nat × AV)) : AX → Option AV
  | .tmp t => lookT l t
  | .val a => some a
  | .glob _ => none
def evParts (l : List (Nat × AV)) : List (Nat × Nat × AX) → Option (List (Nat × Nat × AV))
  | [] => some []
  | (o, s, x) :: r => match evL l x, evParts l r with
    | some v, some vs => some ((o, s, v) :: vs)
    | _, _ => none
/-- One operation of values, or a load of a box. -/
def pureOp (B : List (Nat × List AV)) (l : List (Nat × AV)) : AOp → Option AV
  | .val x => evL l x
  | .build zs parts => (evParts l parts).bind fun ps => (afill ps zs).map .agg
  | .bslice false sz n zs parts => (evParts l parts).bind fun ps => (afill ps zs).map fun cs => .sl .exact sz (chunks sz n cs)
  | .len k x => (evL l x).bind fun v => (alen k v).map fun n => .lit (.int .i64 n)
  | .bin op et x y => (evL l x).bind fun a => (evL l y).bind fun b => abin op et a b
  | .load ag sz (.tmp t) => (lookB B t).bind fun cs => apart ag sz 0 cs
  | _ => none
def pureRun (B : List (Nat × List AV)) : List AOper → List (Nat × AV) → Option (List (Nat × AV))
  | [], l => some l
  | ⟨some d, op, none⟩ :: os, l => match pureOp B l op, lookB B d with
    | some v, none => pureRun B os ((d, v) :: l)
    | _, _ => none
  | _ :: _, _ => none

def Knows (A : Nat → AV) (l : List (Nat × AV)) : Prop := ∀ t v, lookT l t = some v → A t = v
def BoxOk (A : Nat → AV) (H : AHeap) (B : List (Nat × List AV)) : Prop := ∀ t cs, lookB B t = some cs → ∃ o, A t = .mp o 0 ∧ H o = some (.blk cs)
theorem Knows.ev {A : Nat → AV} {l : List (Nat × AV)} (h : Knows A l) {H : AHeap} {N : Nat} : ∀ {x : AX} {v : AV}, evL l x = some v → (⟨A, H, N⟩ : St).ev x = v
  | .tmp t, v, e => h t v e
  | .val a, v, e => by cases e; rfl
  | .glob _, v, e => by cases e
theorem Knows.parts {A : Nat → AV} {l : List (Nat × AV)} (h : Knows A l) {H : AHeap} {N : Nat} : ∀ {ps : List (Nat × Nat × AX)} {vs : List (Nat × Nat × AV)}, evParts l ps = some vs → (ps.map fun x => (x.1, x.2.1, (⟨A, H, N⟩ : St).ev x.2.2)) = vs
  | [], vs, e => by cases e; rfl
  | (o, s, x) :: r, vs, e => by
    simp only [evParts] at e
    cases hv : evL l x with
    | none => rw [hv] at e; cases e
    | some v =>
      cases hr : evParts l r with
      | none => rw [hv, hr] at e; cases e
      | some ws =>
        rw [hv, hr] at e
        cases e
        simp only [List.map_cons, h.ev hv, h.parts hr]
theorem runOps_pure {P : Program} {fs : List Fr} {Q : Post} {s : St} {B : List (Nat × List AV)} {l : List (Nat × AV)} {d : Nat} {os : List AOper} {v : AV} : ∀ {op : AOp}, pureOp B l op = some v → runOps P (⟨some d, op, none⟩ :: os) fs Q s = thenK P (aop op s) (some d) os fs Q s := by
  intro op h
  cases op
  case val => rfl
  case build => rfl
  case bslice => rfl
  case len => rfl
  case bin => rfl
  case load => rfl
  all_goals exact nomatch (show (none : Option AV) = some v from h)
theorem pureOp_ok {A : Nat → AV} {B : List (Nat × List AV)} {l : List (Nat × AV)} {H : AHeap} {N : Nat} (h : Knows A l) (hB : BoxOk A H B) {op : AOp} {v : AV} (e : pureOp B l op = some v) : aop op ⟨A, H, N⟩ = some (v, H, N) := by
  cases op
  case val x => exact congrArg (fun v => some (v, H, N)) (h.ev e)
  case build zs parts =>
    simp only [pureOp] at e
    cases hp : evParts l parts with
    | none => rw [hp] at e; cases e
    | some ps =>
      rw [hp] at e
      simp only [Option.bind_some] at e
      simp only [aop, h.parts hp, e, Option.map_some]
  case bslice mu sz n zs parts =>
    cases mu
    case true => exact nomatch (show (none : Option AV) = some v from e)
    simp only [pureOp] at e
    cases hp : evParts l parts with
    | none => rw [hp] at e; cases e
    | some ps =>
      rw [hp] at e
      simp only [Option.bind_some] at e
      cases hf : afill ps zs with
      | none => rw [hf] at e; cases e
      | some cs =>
        rw [hf] at e
        cases e
        simp only [aop, h.parts hp, hf]
        rfl
  case len k x =>
    simp only [pureOp] at e
    cases hx : evL l x with
    | none => rw [hx] at e; cases e
    | some a =>
      rw [hx] at e
      simp only [Option.bind_some] at e
      simp only [aop, h.ev hx, e, Option.map_some]
  case bin op et x y =>
    simp only [pureOp] at e
    cases hx : evL l x with
    | none => rw [hx] at e; cases e
    | some a =>
      cases hy : evL l y with
      | none => rw [hx, hy] at e; cases e
      | some b =>
        rw [hx, hy] at e
        simp only [Option.bind_some] at e
        simp only [aop, h.ev hx, h.ev hy, e, Option.map_some]
  case load ag sz x =>
    cases x
    case tmp t =>
      simp only [pureOp] at e
      cases hx : lookB B t with
      | none => rw [hx] at e; cases e
      | some cs =>
        rw [hx] at e
        simp only [Option.bind_some] at e
        obtain ⟨o, h1, h2⟩ := hB t cs hx
        have h3 : aload H ag sz (.mp o 0) = some v := by simp only [aload, h2, e]
        show (aload H ag sz (A t)).map (fun v => (v, H, N)) = some (v, H, N)
        rw [h1, h3]; rfl
    all_goals exact nomatch (show (none : Option AV) = some v from e)
  all_goals exact nomatch (show (none : Option AV) = some v from e)
theorem Knows.put {A : Nat → AV} {l : List (Nat × AV)} (h : Knows A l) (d : Nat) (v : AV) : Knows (upA A d v) ((d, v) :: l) := fun t w e => by
  simp only [lookT] at e
  simp only [upA]
  by_cases hd : d = t
  · subst hd; rw [if_pos rfl] at e; cases e; rw [if_pos rfl]
  · rw [if_neg hd] at e; rw [if_neg (Ne.symm hd)]; exact h t w e
theorem BoxOk.put {A : Nat → AV} {H : AHeap} {B : List (Nat × List AV)} (h : BoxOk A H B) {d : Nat} (v : AV) (hd : lookB B d = none) : BoxOk (upA A d v) H B := fun t cs e => by
  obtain ⟨o, h1, h2⟩ := h t cs e
  refine ⟨o, ?_, h2⟩
  simp only [upA]
  rw [if_neg (fun he => by rw [he, hd] at e; cases e), h1]
theorem pure_step {B : List (Nat × List AV)} {d : Nat} {op : AOp} {os : List AOper} {l l' : List (Nat × AV)} (e : pureRun B (⟨some d, op, none⟩ :: os) l = some l') : ∃ v, pureOp B l op = some v ∧ lookB B d = none ∧ pureRun B os ((d, v) :: l) = some l' := by
  simp only [pureRun] at e
  cases ho : pureOp B l op with
  | none => rw [ho] at e; cases e
  | some v =>
    cases hb : lookB B d with
    | some cs => rw [ho, hb] at e; cases e
    | none => rw [ho, hb] at e; exact ⟨v, rfl, rfl, e⟩
theorem pure_mono {B : List (Nat × List AV)} : ∀ {os : List AOper} {l l' : List (Nat × AV)} {t : Nat}, pureRun B os l = some l' → lookT l' t = none → lookT l t = none
  | [], l, l', t, e, h => by cases e; exact h
  | ⟨none, _, _⟩ :: os, l, l', t, e, h => nomatch (show (none : Option (List (Nat × AV))) = some _ from e)
  | ⟨some d, _, some _⟩ :: os, l, l', t, e, h => nomatch (show (none : Option (List (Nat × AV))) = some _ from e)
  | ⟨some d, op, none⟩ :: os, l, l', t, e, h => by
    obtain ⟨v, _, _, e⟩ := pure_step e
    have := pure_mono e h
    simp only [lookT] at this
    split at this
    · cases this
    · exact this
theorem run_pure {P : Program} {fs : List Fr} {Q : Post} {H : AHeap} {N : Nat} {B : List (Nat × List AV)} : ∀ {os : List AOper} {l l' : List (Nat × AV)} {A : Nat → AV}, pureRun B os l = some l' → Knows A l → BoxOk A H B →
    (∀ A', Knows A' l' → (∀ t, lookT l' t = none → A' t = A t) → onward P fs Q .normal ⟨A', H, N⟩) → runOps P os fs Q ⟨A, H, N⟩
  | [], l, l', A, e, h, hB, hk => by cases e; exact hk A h fun t _ => rfl
  | ⟨none, _, _⟩ :: os, l, l', A, e, h, hB, hk => nomatch (show (none : Option (List (Nat × AV))) = some _ from e)
  | ⟨some d, _, some _⟩ :: os, l, l', A, e, h, hB, hk => nomatch (show (none : Option (List (Nat × AV))) = some _ from e)
  | ⟨some d, op, none⟩ :: os, l, l', A, e, h, hB, hk => by
    obtain ⟨v, ho, hb, e⟩ := pure_step e
    have hop := pureOp_ok (N := N) h hB ho
    rw [runOps_pure ho, hop]
    refine run_pure (A := upA A d v) e (h.put d v) (hB.put v hb) fun A' hA hne => hk A' hA fun t ht => (hne t ht).trans ?_
    have := pure_mono e ht
    simp only [lookT] at this
    simp only [upA]
    split at this
    · cases this
    · rename_i hd; rw [if_neg (Ne.symm hd)]
def looksT (l : List (Nat × AV)) : List Nat → Option (List AV)
  | [] => some []
  | t :: ts => match lookT l t, looksT l ts with
    | some v, some vs => some (v :: vs)
    | _, _ => none
theorem looks_ok {A : Nat → AV} {l : List (Nat × AV)} (h : Knows A l) : ∀ {ds : List Nat} {vs : List AV}, looksT l ds = some vs → ds.map A = vs
  | [], vs, e => by cases e; rfl
  | t :: ts, vs, e => by
    simp only [looksT] at e
    cases ht : lookT l t with
    | none => rw [ht] at e; cases e
    | some v =>
      cases hr : looksT l ts with
      | none => rw [ht, hr] at e; cases e
      | some ws =>
        rw [ht, hr] at e
        cases e
        rw [List.map_cons, h t v ht, looks_ok h hr]
def opsOf : ACode → Option (List AOper)
  | .ops l => some l
  | _ => none
/-- As run_pure: the temporaries that are asked for, and some that are kept. -/
theorem run_lits {P : Program} {fs : List Fr} {Q : Post} {A : Nat → AV} {H : AHeap} {N : Nat} {c : ACode} {ds : List Nat} {vs : List AV} {ts : List Nat} (B : List (Nat × List AV)) (l0 : List (Nat × AV)) (hA : Knows A l0) (hB : BoxOk A H B)
    (h1 : ((opsOf c).bind fun os => (pureRun B os l0).bind fun l => looksT l ds) = some vs) (h2 : ((opsOf c).bind fun os => (pureRun B os l0).map fun l => ts.all fun t => (lookT l t).isNone) = some true)
    (hk : ∀ A', ds.map A' = vs → (∀ t ∈ ts, A' t = A t) → onward P fs Q .normal ⟨A', H, N⟩) : run P c fs Q ⟨A, H, N⟩ := by
  cases ho : opsOf c with
  | none => rw [ho] at h1; cases h1
  | some os =>
    have hc : c = .ops os := by
      cases c
      case ops l => cases ho; rfl
      all_goals exact nomatch (show (none : Option (List AOper)) = some os from ho)
    subst hc
    show runOps P os fs Q ⟨A, H, N⟩
    rw [ho] at h1 h2
    simp only [Option.bind_some] at h1 h2
    cases hr : pureRun B os l0 with
    | none => rw [hr] at h1; cases h1
    | some l =>
      rw [hr] at h1 h2
      simp only [Option.bind_some, Option.map_some, Option.some.injEq, List.all_eq_true] at h1 h2
      refine run_pure hr hA hB fun A' hA hne => hk A' (looks_ok hA h1) fun t ht => hne t ?_
      have := h2 t ht
      exact Option.isNone_iff_eq_none.1 this

/-- What is known where just some are done. -/
def restT (T : List (Nat × AV)) (g : Nat → Bool) : List (Nat × AV) := T.filter fun p => g p.1
theorem lookT_rest {T : List (Nat × AV)} {g : Nat → Bool} {t : Nat} {v : AV} (h : lookT (restT T g) t = some v) : lookT T t = some v ∧ g t = true := by
  induction T with
  | nil => cases h
  | cons p T ih =>
    obtain ⟨k, w⟩ := p
    unfold restT at h ih
    rw [List.filter_cons] at h
    by_cases hg : g k = true
    · rw [if_pos hg] at h
      simp only [lookT] at h ⊢
      by_cases hk : k = t
      · rw [if_pos hk] at h ⊢; exact ⟨h, hk ▸ hg⟩
      · rw [if_neg hk] at h ⊢; exact ih h
    · rw [if_neg hg] at h
      obtain ⟨h1, h2⟩ := ih h
      simp only [lookT]
      rw [if_neg (fun he => hg (by rw [he]; exact h2))]
      exact ⟨h1, h2⟩
/-- Which temporaries are set by some of a region. -/
def setBy (l : List (Nat × AOper × List Nat)) (js : List Nat) (t : Nat) : Bool := l.any fun y => js.contains y.1 && (y.2.1.dst == some t)
/-- Each operation of a region sets what the table tells: out of those on which it waits. -/
def DrawnOk (B : List (Nat × List AV)) (T : List (Nat × AV)) (l : List (Nat × AOper × List Nat)) (k N sz bytes n : Nat) (zs : List AV) : List (Nat × AOper × List Nat) → Prop
  | [] => True
  | x :: r => (∃ d op, x.2.1 = ⟨some d, op, none⟩ ∧ lookB B d = none ∧ ((x.1 ≠ k ∧ ∃ v, pureOp B (restT T (setBy l x.2.2)) op = some v ∧ lookT T d = some v) ∨ (x.1 = k ∧ op = .mkslice sz bytes zs (.val (.lit (.int .i64 n))) (.val (.lit (.int .i64 n))) ∧ lookT T d = some (.ms N 0 n sz)))) ∧ DrawnOk B T l k N sz bytes n zs r
theorem DrawnOk.at_ {B : List (Nat × List AV)} {T : List (Nat × AV)} {l : List (Nat × AOper × List Nat)} {k N sz bytes n : Nat} {zs : List AV} : ∀ {r : List (Nat × AOper × List Nat)}, DrawnOk B T l k N sz bytes n zs r → ∀ x ∈ r,
    ∃ d op, x.2.1 = ⟨some d, op, none⟩ ∧ lookB B d = none ∧ ((x.1 ≠ k ∧ ∃ v, pureOp B (restT T (setBy l x.2.2)) op = some v ∧ lookT T d = some v) ∨ (x.1 = k ∧ op = .mkslice sz bytes zs (.val (.lit (.int .i64 n))) (.val (.lit (.int .i64 n))) ∧ lookT T d = some (.ms N 0 n sz)))
  | [], _, x, hx => by simp at hx
  | y :: r, h, x, hx => by
    rcases List.mem_cons.1 hx with rfl | hx
    · exact h.1
    · exact h.2.at_ x hx
theorem nodup_inj {α β : Type} {f : α → β} : ∀ {l : List α}, (l.map f).Nodup → ∀ x ∈ l, ∀ y ∈ l, f x = f y → x = y
  | [], _, x, hx, _, _, _ => by simp at hx
  | a :: l, h, x, hx, y, hy, he => by
    rw [List.map_cons, List.nodup_cons] at h
    rcases List.mem_cons.1 hx with rfl | hx'
    · rcases List.mem_cons.1 hy with rfl | hy'
      · rfl
      · exact (h.1 (List.mem_map.2 ⟨y, hy', he.symm⟩)).elim
    · rcases List.mem_cons.1 hy with rfl | hy'
      · exact (h.1 (List.mem_map.2 ⟨x, hx', he⟩)).elim
      · exact nodup_inj h.2 x hx' y hy' he
theorem run_drawn {P : Program} {fs : List Fr} {Q : Post} {A : Nat → AV} {H : AHeap} {N k sz bytes n : Nat} {zs : List AV} {l : List (Nat × AOper × List Nat)} (B : List (Nat × List AV)) (T : List (Nat × AV)) (hB : BoxOk A H B) (hF : Fresh H N)
    (hok : DrawnOk B T l k N sz bytes n zs l) (hi : (l.map (·.1)).Nodup) (hd : (l.map (·.2.1.dst)).Nodup) (hkm : k ∈ l.map (·.1)) (ham : amake sz bytes zs (.lit (.int .i64 n)) (.lit (.int .i64 n)) = some (n, n))
    (hk : ∀ A', (∀ x ∈ l, ∀ d v, x.2.1.dst = some d → lookT T d = some v → A' d = v) → (∀ t, (∀ x ∈ l, x.2.1.dst ≠ some t) → A' t = A t) → onward P fs Q .normal ⟨A', H.set N (.blk (List.replicate n zs).flatten), N + 1⟩) :
    run P (.draw l) fs Q ⟨A, H, N⟩ := by
  have inj1 : ∀ x ∈ l, ∀ y ∈ l, x.1 = y.1 → x = y := nodup_inj hi
  have inj2 : ∀ x ∈ l, ∀ y ∈ l, x.2.1.dst = y.2.1.dst → x = y := nodup_inj hd
  refine run_draw (fun L s => s.H = (if L k = true then H.set N (.blk (List.replicate n zs).flatten) else H) ∧ s.N = (if L k = true then N + 1 else N) ∧ (∀ x ∈ l, L x.1 = true → ∀ d v, x.2.1.dst = some d → lookT T d = some v → s.A d = v) ∧ ∀ t, (∀ x ∈ l, x.2.1.dst ≠ some t) → s.A t = A t) ?_ ?_ ?_
  · refine ⟨by simp, by simp, fun x hx h => by simp at h, fun t _ => ?_⟩
    rfl
  · rintro x hx L A1 H1 N1 ⟨hl, hdeps, _⟩ ⟨e1, e2, e3, e4⟩
    simp only at e1 e2 e3 e4
    obtain ⟨d, op, hop, hbd, hcase⟩ := hok.at_ x hx
    have hdst : x.2.1.dst = some d := by rw [hop]
    have hB1 : BoxOk A1 H1 B := fun t cs ht => by
      obtain ⟨o, h1, h2⟩ := hB t cs ht
      refine ⟨o, ?_, ?_⟩
      · rw [e4 t (fun y hy he => by
          obtain ⟨d', op', hop', hbd', _⟩ := hok.at_ y hy
          rw [hop'] at he
          cases he
          rw [hbd'] at ht; cases ht), h1]
      · have := hF.lt h2
        rw [e1]
        split
        · simp only [AHeap.set]; rw [if_neg (by omega), h2]
        · exact h2
    have up3 : ∀ v, lookT T d = some v → ∀ y ∈ l, (L y.1 || y.1 == x.1) = true → ∀ d' v', y.2.1.dst = some d' → lookT T d' = some v' → (upA A1 d v) d' = v' := fun v hv y hy hL d' v' hd' hv' => by
      simp only [upA]
      by_cases hdd : d' = d
      · subst hdd
        rw [hv] at hv'
        cases hv'
        rw [if_pos rfl]
      · rw [if_neg hdd]
        rcases Bool.or_eq_true _ _ ▸ hL with h | h
        · exact e3 y hy h d' v' hd' hv'
        · have hyx := inj1 y hy x hx (by simpa using h)
          rw [hyx, hdst] at hd'
          cases hd'
          exact absurd rfl hdd
    have up4 : ∀ v t, (∀ x ∈ l, x.2.1.dst ≠ some t) → (upA A1 d v) t = A t := fun v t ht => by
      simp only [upA]
      rw [if_neg (fun he => ht x hx (by rw [hdst, he])), e4 t ht]
    rw [hop]
    rcases hcase with ⟨hne, v, hv, hT⟩ | ⟨hxk, rfl, hT⟩
    · have hK : Knows A1 (restT T (setBy l x.2.2)) := fun t w ht => by
        obtain ⟨h1, h2⟩ := lookT_rest ht
        simp only [setBy, List.any_eq_true, Bool.and_eq_true] at h2
        obtain ⟨y, hy, h3, h4⟩ := h2
        exact e3 y hy (hdeps y.1 (by simpa using h3)) t w (by simpa using h4) h1
      rw [runOps_pure hv, pureOp_ok (N := N1) hK hB1 hv]
      refine ⟨?_, ?_, up3 v hT, up4 v⟩
      · have : (k == x.1) = false := by simpa using fun h => hne h.symm
        simp only [this, Bool.or_false]
        exact e1
      · have : (k == x.1) = false := by simpa using fun h => hne h.symm
        simp only [this, Bool.or_false]
        exact e2
    · have hlk : L k = false := by rw [← hxk]; exact hl
      rw [hlk] at e1 e2
      simp only [Bool.false_eq_true, if_false] at e1 e2
      subst e1
      subst e2
      show thenK P (aop (.mkslice sz bytes zs (.val (.lit (.int .i64 n))) (.val (.lit (.int .i64 n)))) ⟨A1, H1, N1⟩) (some d) [] [] _ ⟨A1, H1, N1⟩
      have : aop (.mkslice sz bytes zs (.val (.lit (.int .i64 n))) (.val (.lit (.int .i64 n)))) ⟨A1, H1, N1⟩ = some (.ms N1 0 n sz, H1.set N1 (.blk (List.replicate n zs).flatten), N1 + 1) := by
        show (amake sz bytes zs (.lit (.int .i64 n)) (.lit (.int .i64 n))).map _ = _
        rw [ham]; rfl
      rw [this]
      refine ⟨?_, ?_, up3 _ hT, up4 _⟩
      · simp [hxk]
      · simp [hxk]
  · rintro L A1 H1 N1 hall ⟨e1, e2, e3, e4⟩
    simp only at e1 e2 e3 e4
    obtain ⟨x, hx, hxk⟩ := List.mem_map.1 hkm
    have hLk : L k = true := by rw [← hxk]; exact hall x hx
    rw [hLk] at e1 e2
    simp only [if_true] at e1 e2
    subst e1
    subst e2
    exact hk A1 (fun x hx => e3 x hx (hall x hx)) e4
end Go.Fw
