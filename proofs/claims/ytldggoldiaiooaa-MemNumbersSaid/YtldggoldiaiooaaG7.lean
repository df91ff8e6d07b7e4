/- Framework, part 16: code, and functions. -/
import Derived.Test.YtldggoldiaiooaaG6
namespace Go.Fw
open Go

def ccode (P : Program) (An : Ann) (n : Nat) : Code → Option ACode
  | .skip => some .skip
  | .region _ ops draw => if draw = true then (cdraw P An n ops).map .ops else (ops.toList.mapM (coper P An n ops)).map .ops
  | .seq a b => match ccode P An n a, ccode P An n b with
    | some x, some y => some (.seq x y)
    | _, _ => none
  | .cond c a b => match ccode P An n a, ccode P An n b with
    | some x, some y => some (.cond (cX c) x y)
    | _, _ => none
  | .block id a => (ccode P An n a).map (.block id)
  | .loop a => (ccode P An n a).map .loop
  | .exit id => some (.exit id)
  | .ret => some .ret
  | _ => none

section
variable {P : Program} {n : Nat}

theorem Sat.of_nx {e0 : Env} {H0 : AHeap} {Q : AExit → St → Prop} {x : Exit} {y : AExit} (hr : ExitRel y x) {a : Act} {w : World} (h : Nx n e0 H0 (Q y) a w) : Sat n e0 H0 Q x a w := ⟨y, hr, h⟩

theorem awp_sound (hm : P.follows .mixedOrders = true) {An : Ann} : ∀ (c : Code) (ac : ACode) (Q : AExit → St → Prop) (s : St) (e e0 : Env) (H0 : AHeap) (a : Act), ccode P An n c = some ac → awp P ac Q s →
    Gam e n s a → a.defers = [] → Tr e0 H0 e s.H → c.wp P (Sat n e0 H0 Q) a e.w := by
  intro c
  induction c with
  | skip => intro ac Q s e e0 H0 a hc h g hd ht; cases hc; exact wp_skip ⟨.normal, trivial, e, s, rfl, h, g, hd, ht⟩
  | region id ops draw =>
    intro ac Q s e e0 H0 a hc h g hd ht
    simp only [ccode] at hc
    split at hc
    · rename_i hdr
      subst hdr
      simp only [Option.map_eq_some_iff] at hc
      obtain ⟨l, hl, rfl⟩ := hc
      exact cdraw_sound hm hl h g hd ht (fun a w hn => ⟨.normal, trivial, hn⟩)
    · rename_i hdr
      have : draw = false := by simpa using hdr
      subst this
      simp only [Option.map_eq_some_iff] at hc
      obtain ⟨l, hl, rfl⟩ := hc
      exact wp_region_list (awpOps_sound (K := Q .normal) (fun a w hn => ⟨.normal, trivial, hn⟩) ops.toList l s e a hl h g hd ht)
  | seq x y ihx ihy =>
    intro ac Q s e e0 H0 a hc h g hd ht
    simp only [ccode] at hc
    split at hc
    · rename_i ax ay hx hy
      cases hc
      simp only [awp] at h
      refine wp_seq (wp_mono (ihx ax _ s e e0 H0 a hx h g hd ht) ?_)
      rintro x' a' w' ⟨y', hr, e', s', hw, hq, g', hd', ht'⟩
      cases y' <;> cases x' <;> simp only [ExitRel] at hr
      · subst hw; exact ihy ay Q s' e' e0 H0 a' hy hq g' hd' ht'
      · subst hr; exact ⟨.exit _, rfl, e', s', hw, hq, g', hd', ht'⟩
      · exact ⟨.ret, trivial, e', s', hw, hq, g', hd', ht'⟩
    · cases hc
  | cond c x y ihx ihy =>
    intro ac Q s e e0 H0 a hc h g hd ht
    simp only [ccode] at hc
    split at hc
    · rename_i ax ay hx hy
      cases hc
      simp only [awp] at h
      split at h
      · rename_i t hct
        have hv := g.ev c
        rw [hct] at hv
        generalize hgc : a.eval c = cv at hv
        cases hv
        cases t
        · exact wp_cond_false hgc (ihy ay Q s e e0 H0 a hy (h.2 rfl) g hd ht)
        · exact wp_cond_true hgc (ihx ax Q s e e0 H0 a hx (h.1 rfl) g hd ht)
      · exact h.elim
    · cases hc
  | block id x ih =>
    intro ac Q s e e0 H0 a hc h g hd ht
    simp only [ccode, Option.map_eq_some_iff] at hc
    obtain ⟨ax, hx, rfl⟩ := hc
    simp only [awp] at h
    refine wp_block (wp_mono (ih ax _ s e e0 H0 a hx h g hd ht) ?_)
    rintro x' a' w' ⟨y', hr, e', s', hw, hq, g', hd', ht'⟩
    cases y' <;> cases x' <;> simp only [ExitRel] at hr
    · exact ⟨.normal, trivial, e', s', hw, hq, g', hd', ht'⟩
    · rename_i i j
      subst hr
      simp only [Exit.inBlock]
      split
      · rename_i hid
        simp only [hid, if_true] at hq
        exact ⟨.normal, trivial, e', s', hw, hq, g', hd', ht'⟩
      · rename_i hid
        simp only [if_neg hid] at hq
        exact ⟨.exit _, rfl, e', s', hw, hq, g', hd', ht'⟩
    · exact ⟨.ret, trivial, e', s', hw, hq, g', hd', ht'⟩
  | loop x ih =>
    intro ac Q s e e0 H0 a hc h g hd ht
    simp only [ccode, Option.map_eq_some_iff] at hc
    obtain ⟨ax, hx, rfl⟩ := hc
    simp only [awp] at h
    obtain ⟨J, m0, hJ, hround⟩ := h
    refine wp_loop_ghost (fun m a' w' => ∃ e' s', e'.w = w' ∧ J m s' ∧ Gam e' n s' a' ∧ a'.defers = [] ∧ Tr e0 H0 e' s'.H) m0 ⟨e, s, rfl, hJ, g, hd, ht⟩ ?_
    rintro m a' w' ⟨e', s', rfl, hJ', g', hd', ht'⟩
    refine wp_mono (ih ax _ s' e' e0 H0 a' hx (hround m s' hJ') g' hd' ht') ?_
    rintro x' a2 w2 ⟨y', hr, e2, s2, hw, hq, g2, hd2, ht2⟩
    cases y' <;> cases x' <;> simp only [ExitRel] at hr
    · obtain ⟨k, hk, hJk⟩ := hq
      exact ⟨k, hk, e2, s2, hw, hJk, g2, hd2, ht2⟩
    · subst hr; exact ⟨.exit _, rfl, e2, s2, hw, hq, g2, hd2, ht2⟩
    · exact ⟨.ret, trivial, e2, s2, hw, hq, g2, hd2, ht2⟩
  | exit id => intro ac Q s e e0 H0 a hc h g hd ht; cases hc; exact wp_exit ⟨.exit id, rfl, e, s, rfl, h, g, hd, ht⟩
  | ret => intro ac Q s e e0 H0 a hc h g hd ht; cases hc; exact wp_ret ⟨.ret, trivial, e, s, rfl, h, g, hd, ht⟩
  | rangeFunc f params assign body => intro ac Q s e e0 H0 a hc; cases hc
  | scope b => intro ac Q s e e0 H0 a hc; cases hc
  | label l => intro ac Q s e e0 H0 a hc; cases hc
  | goto l => intro ac Q s e e0 H0 a hc; cases hc
  | refuse w => intro ac Q s e e0 H0 a hc; cases hc

/-- Where a function's results lie. -/
def resTmps : List ResultVar → Option (List Nat)
  | [] => some []
  | .tmp t :: r => (resTmps r).map (t :: ·)
  | .cell _ _ :: _ => none

def ares (l : List Nat) (s : St) : AV :=
  match l with
  | [t] => s.A t
  | l => .tup (l.map s.A)

theorem results_run {fn : Func} {l : List Nat} (hl : resTmps fn.results.toList = some l) (hl3 : l.length ≤ 3) {e : Env} {s : St} {a : Act} (g : Gam e n s a) : ∃ v, (results fn a.tmps).run P e.w = .ok v e.w ∧ Rep e (ares l s) v := by
  have key : ∀ (rs : List ResultVar) (l : List Nat), resTmps rs = some l → rs = l.map .tmp := by
    intro rs
    induction rs with
    | nil => intro l h; simp [resTmps] at h; subst h; rfl
    | cons r rs ih =>
      intro l h
      cases r with
      | tmp t =>
        simp only [resTmps, Option.map_eq_some_iff] at h
        obtain ⟨l', h1, rfl⟩ := h
        simp [ih l' h1]
      | cell a t => simp [resTmps] at h
  have hrs := key _ _ hl
  have hfr : fn.results = (l.map ResultVar.tmp).toArray := by apply Array.ext'; simpa using hrs
  match l, hfr, hl3 with
  | [], hfr, _ => exact ⟨.tuple #[], by simp [results, hfr], .tup (vs := []) rfl (fun i c v hc => by simp at hc)⟩
  | [t], hfr, _ => exact ⟨a.tmps.getD t undef, results_tmp (by simpa using hfr) a.tmps P e.w, g.tm t⟩
  | [t, u], hfr, _ =>
    refine ⟨.tuple [a.tmps.getD t undef, a.tmps.getD u undef].toArray, results_tmp2 (by simpa using hfr) a.tmps P e.w, .tup (cs := [s.A t, s.A u]) rfl (fun i c v hc hv => ?_)⟩
    match i with
    | 0 => simp at hc hv; subst hc; subst hv; simpa using g.tm t
    | 1 => simp at hc hv; subst hc; subst hv; simpa using g.tm u
    | i + 2 => simp at hc
  | [t, u, x], hfr, _ =>
    refine ⟨.tuple [a.tmps.getD t undef, a.tmps.getD u undef, a.tmps.getD x undef].toArray, by simp [results, hfr], .tup (cs := [s.A t, s.A u, s.A x]) rfl (fun i c v hc hv => ?_)⟩
    match i with
    | 0 => simp at hc hv; subst hc; subst hv; simpa using g.tm t
    | 1 => simp at hc hv; subst hc; subst hv; simpa using g.tm u
    | 2 => simp at hc hv; subst hc; subst hv; simpa using g.tm x
    | i + 3 => simp at hc

/-- The state in which a function begins. -/
def St0 (args : List AV) (H : AHeap) (N : Nat) : St := { A := fun t => args.getD t (.lit undef), H := H, N := N }

theorem gam0 {e : Env} {args : List AV} {vs : List Value} {H : AHeap} {N nt : Nat} (hH : HRep e H) (hN : e.N = N) (hl : vs.length = args.length) (hle : args.length ≤ nt)
    (hr : ∀ (i : Nat) (c : AV) (v : Value), args[i]? = some c → vs[i]? = some v → Rep e c v) :
    Gam e nt (St0 args H N) { tmps := vs.toArray ++ Array.replicate (nt - vs.toArray.size) undef, defers := [] } := by
  refine ⟨hN, hH, by simp; omega, fun t => ?_⟩
  simp only [St0, Array.getD_eq_getD_getElem?, List.getD]
  by_cases ht : t < args.length
  · rw [Array.getElem?_append_left (by simp; omega)]
    have h1 : args[t]? = some args[t] := by simp [ht]
    have h2 : vs[t]? = some vs[t] := by simp [show t < vs.length by omega]
    rw [h1]
    simp only [List.getElem?_toArray, h2, Option.getD_some]
    exact hr t _ _ h1 h2
  · rw [List.getElem?_eq_none (by omega), Option.getD_none, Array.getElem?_append_right (by simp; omega)]
    rw [Array.getElem?_replicate]
    split
    · exact .lit _
    · exact .lit _

/-- A function's contract, out of what holds ahead of its body. -/
theorem acall_of (hm : P.follows .mixedOrders = true) {f : FuncId} {fn : Func} (hf : P.funcs[f]? = some fn) (hgood : goodFn P f = true) {c : Code} (hb : fn.body = some c) {An : Ann} {nt : Nat} (hnt : fn.ntmps = nt) {ac : ACode} (hc : ccode P An nt c = some ac)
    {l : List Nat} (hl : resTmps fn.results.toList = some l) (hl3 : l.length ≤ 3) {args : List AV} (hle : args.length ≤ nt) {H : AHeap} {N : Nat} {Q : AV → AHeap → Nat → Prop}
    (h : awp P ac (fun x s => match x with | .exit _ => False | _ => Q (ares l s) s.H s.N) (St0 args H N)) : ACall P f args H N Q := by
  refine ⟨hgood, fun e vs hH hN hlen hr => ?_⟩
  subst hnt
  refine calls_of_wp hf hb (wp_mono (awp_sound hm c ac _ _ e e H _ hc h (gam0 hH hN hlen hle hr) rfl (.refl e H)) ?_)
  rintro x a w ⟨y, hxy, e', s', rfl, hq, g', hd', ht'⟩
  obtain ⟨v, hv, hrep⟩ := results_run (P := P) hl hl3 g'
  have fin : Q (ares l s') s'.H s'.N → a.defers = [] ∧ ∃ v, (results fn a.tmps).run P e'.w = .ok v e'.w ∧ (fun x w' => ∃ v e' r H', x = Ending.returned v ∧ e'.w = w' ∧ Q r H' e'.N ∧ Rep e' r v ∧ HRep e' H' ∧ Tr e H e' H') (.returned v) e'.w :=
    fun hq => ⟨hd', v, hv, v, e', _, _, rfl, rfl, by rw [g'.N]; exact hq, hrep, g'.H, ht'⟩
  cases y <;> cases x <;> simp only [ExitRel] at hxy
  · exact fin hq
  · exact hq.elim
  · exact fin hq

def noHeap : AHeap := fun _ => none


end
end Go.Fw
