/- Framework, part 15: one order of a region serves for all; code; functions. -/
import Derived.Test.YtmgmgeijfkcglaaG5
namespace Go.Fw
set_option linter.unusedSimpArgs false
set_option linter.unusedVariables false
open Go
set_option linter.unusedSectionVars false
variable [Globals]

section
variable {P : Program} {n : Nat}

/-- What an operation leaves behind it, in shape. -/
def Shape (o : AOper) (s s1 : St) : Prop := (∀ t, o.dst ≠ some t → s1.A t = s.A t) ∧ (o.op.keeps = true → Keeps s.H s1.H) ∧ (∀ b, o.op.spared = some b → Spares s s1.H b)

theorem shape_put (o : AOper) (s : St) (v : AV) : Shape o s (s.put o.dst v) := by
  refine ⟨fun t ht => ?_, fun _ => by rw [(put_HN s o.dst v).1]; exact fun _ _ h => h, fun b _ id off _ => by rw [(put_HN s o.dst v).1]⟩
  cases hd : o.dst with
  | none => rfl
  | some d => simp only [St.put]; rw [if_neg (fun (h : t = d) => ht (by rw [hd, h]))]

theorem shape_upd (o : AOper) (s : St) (v : AV) (H : AHeap) (N : Nat) (h : o.op.keeps = true → Keeps s.H H) (h2 : ∀ b, o.op.spared = some b → Spares s H b) : Shape o s (s.upd o.dst v H N) := by
  have := shape_put o { s with H := H, N := N } v
  exact ⟨fun t ht => this.1 t ht, fun hc => fun id ob hid => this.2.1 hc id ob (h hc id ob hid), fun b hb id off ha => (this.2.2 b hb id off ha).trans (h2 b hb id off ha)⟩

theorem awpDo_shape {o : AOper} {K : St → Prop} {s : St} (h : awpDo P o K s) : awpDo P o (fun s1 => K s1 ∧ Shape o s s1) s := by
  rcases op_cases o.op with ⟨f, a, hop⟩ | ⟨f, a, hop⟩ | ⟨f, a, hop⟩ | hn1
  · rw [awpDo_call hop] at h ⊢
    exact h.mono fun r H' N' hk => ⟨hk, shape_upd o s r H' N' (fun hc => by rw [hop] at hc; simp [AOp.keeps, AOp.cls] at hc) (fun b hb => by rw [hop] at hb; simp [AOp.spared] at hb)⟩
  · rw [awpDo_pcall hop] at h ⊢
    split at h
    · obtain ⟨r, h1, h2⟩ := h; exact ⟨r, h1, h2, shape_put o s r⟩
    · exact h.elim
  · rw [awpDo_kcall hop] at h ⊢
    split at h
    · exact h.mono fun r H' N' hk => ⟨hk.1, hk.2, shape_upd o s r H' N' (fun _ => hk.1) (fun b hb => by rw [hop] at hb; simp [AOp.spared] at hb)⟩
    · exact h.elim
  · rw [awpDo_op hn1] at h ⊢
    split at h
    · rename_i v H' N' hop
      exact ⟨h, shape_upd o s v H' N' (fun hc => by
        have hc' : (∃ sz n x y, o.op = .kappend sz n x y) ∨ o.op.cls ≤ 1 := by
          revert hn1 hc
          cases o.op <;> simp [AOp.keeps, AOp.plain]
        rcases hc' with ⟨sz, n, x, y, hk⟩ | hc'
        · rw [hk] at hop
          simp only [aop] at hop
          split at hop
          · rename_i hs; exact aappend_keep hop hs
          · cases hop
        · rw [(aop_quiet hc' hop).1]; exact fun _ _ h => h) (fun b hb id off ha => by
        revert hop
        obtain ⟨dst, op, gd⟩ := o
        simp only at hb ⊢
        cases op with
        | sappend sz n x y z =>
          cases x with
          | tmp t =>
            simp only [AOp.spared, Option.some.injEq] at hb
            subst hb
            intro hop
            have he : s.ev (.tmp t) = .mp id off := ha
            simp only [aop] at hop
            split at hop
            · rename_i hs; rw [he] at hs; exact aappend_spare hop hs
            · cases hop
          | _ => simp [AOp.spared] at hb
        | _ => simp [AOp.spared] at hb)⟩
    · exact h.elim

theorem awpOp_shape {o : AOper} {K : St → Prop} {s : St} (h : awpOp P o K s) : awpOp P o (fun s1 => K s1 ∧ Shape o s s1) s := by
  cases hg : o.guard with
  | none => rw [awpOp_none hg] at h ⊢; exact awpDo_shape h
  | some g =>
    rw [awpOp_some hg] at h ⊢
    obtain ⟨b, h1, h2, h3⟩ := h
    exact ⟨b, h1, fun hb => awpDo_shape (h2 hb), fun hb => ⟨h3 hb, shape_put o s _⟩⟩

/-- Whatever order is picked. -/
def aAny (P : Program) (ops : Array Oper) (al : Array AOper) (K : St → Prop) : Nat → Array Bool → St → Prop
  | 0, listed, s => Region.ready .any ops listed = [] ∧ K s
  | fuel + 1, listed, s => (Region.ready .any ops listed = [] → K s) ∧
      ∀ i ∈ Region.ready .any ops listed, ∃ ao, al[i]? = some ao ∧ awpOp P ao (aAny P ops al K fuel (listed.setIfInBounds i true)) s

theorem awpOp_sound {r : Option Nat} {An : Ann} {ops : Array Oper} {o : Oper} {ao : AOper} (hco : coper P An n ops o = some ao) {K : St → Prop} {s : St} (h : awpOp P ao K s) {e e0 : Env} {H0 : AHeap} {a : Act}
    (g : Gam e n s a) (hdef : Marks e0 e s.H a.defers) (ht : Tr e0 H0 e s.H) {Q : Exit → Act → World → Prop} {K' : Act → World → Prop} (hK : ∀ a w, Nx n e0 H0 K a w → K' a w) :
    if Region.wanted o (yielded ops a.tmps) then o.wpIn (FnR r) 0 P a e.w K' Q else (∀ f, o.about P e.w a.eval = some f → (FnR r).fn f) ∧ K' (a.put o.dst undef) e.w := by
  unfold coper at hco
  split at hco
  · rename_i hdst
    have hd := dstOk_lt hdst
    have run : ∀ gd, awpDo P ⟨o.dst, copB P An o, gd⟩ K s → o.wpIn (FnR r) 0 P a e.w K' Q := fun gd hdo => Oper.wpIn_mono hK (awpDo_soundB hd hdo g hdef ht)
    split at hco
    · rename_i hgd
      cases hco
      rw [if_pos (by simp [Region.wanted, hgd])]
      exact run _ (by simpa only [awpOp_none] using h)
    · rename_i j w hgd
      split at hco
      · rename_i t htt
        cases hco
        simp only [awpOp] at h
        obtain ⟨b, h1, h2, h3⟩ := h
        rw [gate_run g hgd htt h1]
        cases b with
        | true => rw [if_pos rfl]; exact run _ (h2 rfl)
        | false =>
          rw [if_neg (by simp)]
          refine ⟨fun _ _ => trivial, hK _ _ ⟨e, _, rfl, h3 rfl, g.put hd (.lit undef), ?_, ?_⟩⟩
          · rw [(put_HN s o.dst _).1]; exact hdef.put _ _
          · rw [(put_HN s o.dst _).1]; exact ht
      · cases hco
  · cases hco

theorem aAny_sound {r : Option Nat} {An : Ann} {ops : Array Oper} {al : Array AOper} (hal : ∀ (i : Nat) (ao : AOper), al[i]? = some ao → ∃ o, ops[i]? = some o ∧ coper P An n ops o = some ao)
    {K : St → Prop} {e0 : Env} {H0 : AHeap} {Q : Exit → Act → World → Prop} (hQ : ∀ a w, Nx n e0 H0 K a w → Q .normal a w) :
    ∀ (fuel : Nat) (listed : Array Bool) (s : St) (e : Env) (a : Act), aAny P ops al K fuel listed s → Gam e n s a → Marks e0 e s.H a.defers → Tr e0 H0 e s.H → wpAnyIn (FnR r) 0 P .any ops Q fuel listed a e.w
  | 0, listed, s, e, a, h, g, hd, ht => ⟨h.1, hQ _ _ ⟨e, s, rfl, h.2, g, hd, ht⟩⟩
  | fuel + 1, listed, s, e, a, h, g, hd, ht => by
    refine ⟨fun h0 => hQ _ _ ⟨e, s, rfl, h.1 h0, g, hd, ht⟩, fun i hi => ?_⟩
    obtain ⟨ao, h1, h2⟩ := h.2 i hi
    obtain ⟨o, h3, h4⟩ := hal i ao h1
    unfold wpOpIn
    simp only [h3]
    exact awpOp_sound h4 h2 g hd ht (fun a' w' ⟨e', s', hw, hk, g', hd', ht'⟩ => by
      subst hw
      exact aAny_sound hal hQ fuel _ s' e' a' hk g' hd' ht')

/-- All on which a listed one waits is listed. -/
def Good (ops : Array Oper) (listed : Array Bool) : Prop :=
  ∀ (k : Nat) (o : Oper), listed.getD k false = true → ops[k]? = some o → ∀ e ∈ o.after, Region.binds .any e = true → listed.getD e.on false = true

/-- A table of who waits for whom, held against the edges. -/
def ancOk (ops : Array Oper) (anc : Array Nat) : Bool :=
  (List.range ops.size).all fun j => (List.range ops.size).all fun i => !((anc.getD j 0).testBit i) ||
    (match ops[j]? with
     | some o => o.after.any fun e => Region.binds .any e && decide (e.on < j) && (e.on == i || (anc.getD e.on 0).testBit i)
     | none => true)

theorem anc_spec {ops : Array Oper} {anc : Array Nat} (h : ancOk ops anc = true) {j i : Nat} {o : Oper} (hj : ops[j]? = some o) (hi : i < ops.size) (ha : (anc.getD j 0).testBit i = true) :
    ∃ e ∈ o.after, Region.binds .any e = true ∧ e.on < j ∧ (e.on = i ∨ (anc.getD e.on 0).testBit i = true) := by
  have hjs : j < ops.size := (Array.getElem?_eq_some_iff.1 hj).1
  simp only [ancOk, List.all_eq_true, List.mem_range] at h
  have h1 := h j hjs i hi
  rw [ha, hj] at h1
  simp only [Bool.not_true, Bool.false_or, Array.any_eq_true'] at h1
  obtain ⟨e, he, h2⟩ := h1
  simp only [Bool.and_eq_true, decide_eq_true_eq, Bool.or_eq_true, beq_iff_eq] at h2
  exact ⟨e, he, h2.1.1, h2.1.2, h2.2⟩

theorem anc_listed {ops : Array Oper} {anc : Array Nat} (h : ancOk ops anc = true) {listed : Array Bool} (hg : Good ops listed) {i : Nat} (hi : i < ops.size) :
    ∀ (k : Nat), k < ops.size → listed.getD k false = true → (anc.getD k 0).testBit i = true → listed.getD i false = true := by
  intro k
  induction k using Nat.strongRecOn with
  | _ k ih =>
    intro hk hl ha
    have hko : ops[k]? = some ops[k] := by simp [hk]
    obtain ⟨e, he, hb, hlt, h1⟩ := anc_spec h hko hi ha
    have h2 := hg k _ hl hko e he hb
    rcases h1 with rfl | h1
    · exact h2
    · exact ih e.on hlt (by omega) h2 h1

theorem anc_ready {ops : Array Oper} {anc : Array Nat} (h : ancOk ops anc = true) {listed : Array Bool} (hg : Good ops listed) {i j : Nat} (hi : i < ops.size) (hj : j ∈ Region.ready .any ops listed)
    (ha : (anc.getD j 0).testBit i = true) : listed.getD i false = true := by
  obtain ⟨_, o, ho, hall⟩ := mem_ready.1 hj
  obtain ⟨e, he, hb, hlt, h1⟩ := anc_spec h ho hi ha
  have h2 := hall e he hb
  rcases h1 with rfl | h1
  · exact h2
  · exact anc_listed h hg hi e.on (by have := (Array.getElem?_eq_some_iff.1 ho).1; omega) h2 h1

theorem good_set {ops : Array Oper} {listed : Array Bool} (hg : Good ops listed) {j : Nat} (hj : j ∈ Region.ready .any ops listed) : Good ops (listed.setIfInBounds j true) := by
  intro k o hk ho e he hb
  refine getD_set_true ?_
  by_cases hkj : k = j
  · subst hkj
    obtain ⟨_, o', ho', hall⟩ := mem_ready.1 hj
    rw [ho] at ho'
    cases ho'
    exact hall e he hb
  · have : listed.getD k false = true := by
      have h1 := hk
      simp only [Array.getD_eq_getD_getElem?, Array.getElem?_setIfInBounds_ne (Ne.symm hkj)] at h1 ⊢
      exact h1
    exact hg k o this ho e he hb

def apartA (oi oj : AOper) : Bool :=
  (match oi.dst with
   | some d => !(oj.looks.contains d) && oj.dst != some d
   | none => true) &&
  (match oj.dst with
   | some d => !(oi.looks.contains d)
   | none => true)

theorem apartA_spec {oi oj : AOper} (h : apartA oi oj = true) : (∀ d, oi.dst = some d → d ∉ oj.looks) ∧ (∀ d, oi.dst = some d → oj.dst ≠ some d) ∧ (∀ d, oj.dst = some d → d ∉ oi.looks) := by
  refine ⟨fun d hd => ?_, fun d hd => ?_, fun d hd => ?_⟩ <;> simp [apartA, hd] at h
  · exact h.1.1
  · exact h.1.2
  · exact h.2

def spares (oi oj : AOper) : Bool := match oi.op.loads, oj.op.spared with
  | some t, some b => t == b
  | _, _ => false

theorem aAny_first {ops : Array Oper} {al : Array AOper} {anc : Array Nat} (hanc : ancOk ops anc = true) {K : St → Prop} {i : Nat} {oi : AOper} (hi : al[i]? = some oi) (his : i < ops.size) (hq : oi.op.cls ≤ 1) :
    ∀ (fuel : Nat) (listed : Array Bool) (s : St) (v : AV), Good ops listed → i ∈ Region.ready .any ops listed →
      (∀ (j : Nat) (oj : AOper), al[j]? = some oj → j ≠ i → listed.getD j true = false → (anc.getD j 0).testBit i = false → apartA oi oj = true ∧ (oi.op.cls = 0 ∨ oj.op.keeps = true ∨ spares oi oj = true)) →
      QVg P oi s v → aAny P ops al K fuel (listed.setIfInBounds i true) (s.put oi.dst v) → aAny P ops al K (fuel + 1) listed s := by
  intro fuel
  induction fuel with
  | zero =>
    intro listed s v hg hr hfree hv H
    refine ⟨fun h => (by rw [h] at hr; cases hr), fun j hj => ?_⟩
    by_cases hji : j = i
    · subst hji; exact ⟨oi, hi, awpOp_of_qvg hq hv H⟩
    · have := ready_mono hj hji
      rw [H.1] at this
      cases this
  | succ fuel ih =>
    intro listed s v hg hr hfree hv H
    refine ⟨fun h => (by rw [h] at hr; cases hr), fun j hj => ?_⟩
    by_cases hji : j = i
    · subst hji; exact ⟨oi, hi, awpOp_of_qvg hq hv H⟩
    · obtain ⟨oj, hoj, h1⟩ := H.2 j (ready_mono hj hji)
      obtain ⟨hjun, _⟩ := mem_ready.1 hj
      have hiun : listed.getD i false = false := by
        have h0 := (mem_ready.1 hr).1
        rcases Nat.lt_or_ge i listed.size with h' | h'
        · simp [h'] at h0 ⊢; exact h0
        · simp [Array.getElem?_eq_none h']
      have hna : (anc.getD j 0).testBit i = false := by
        cases hb : (anc.getD j 0).testBit i with
        | false => rfl
        | true => have := anc_ready hanc hg his hj hb; rw [hiun] at this; cases this
      obtain ⟨hap, hcl⟩ := hfree j oj hoj hji hjun hna
      obtain ⟨p1, p2, p3⟩ := apartA_spec hap
      refine ⟨oj, hoj, ?_⟩
      refine awpOp_mono (fun s1 hs1 => ?_) (awpOp_shape (awpOp_put p1 p2 h1))
      obtain ⟨hs1, hsh⟩ := hs1
      refine ih (listed.setIfInBounds j true) s1 v (good_set hg hj) (ready_mono hr (Ne.symm hji)) (fun k ok hk hki hun hno => ?_) ?_ ?_
      · refine hfree k ok hk hki ?_ hno
        by_cases hjk : j = k
        · subst hjk; exact hjun
        · rw [getD_set_ne true hjk] at hun; exact hun
      · have hagr : Agree s s1 oi.looks := fun t ht => hsh.1 t (fun hd => p3 t hd ht)
        rcases hcl with hcl | hcl | hcl
        · exact hv.agree hagr (.inl hcl)
        · exact hv.agree hagr (.inr ⟨hq, hsh.2.1 hcl⟩)
        · unfold spares at hcl
          split at hcl
          · rename_i t b h1 h2
            have : t = b := by simpa using hcl
            subst this
            exact hv.spare hagr h1 (hsh.2.2 t h2)
          · cases hcl
      · rw [Array.setIfInBounds_comm _ _ hji]
        exact hs1

/-- May the operations be gone through in this one order? -/
def ordOk (ops : Array Oper) (al : Array AOper) (anc : Array Nat) : List Nat → Array Bool → Bool
  | [], listed => (Region.ready .any ops listed).isEmpty
  | i :: r, listed =>
    (match al[i]? with
     | none => false
     | some oi => Region.ready .any ops listed == [i] ||
       (decide (oi.op.cls ≤ 1) && (Region.ready .any ops listed).contains i &&
        (List.range al.size).all fun j => j == i || listed.getD j true || (anc.getD j 0).testBit i ||
          (match al[j]? with
           | some oj => apartA oi oj && (oi.op.cls == 0 || (oj.op.keeps || spares oi oj))
           | none => true))) &&
    ordOk ops al anc r (listed.setIfInBounds i true)

theorem aAny_ord {ops : Array Oper} {al : Array AOper} {anc : Array Nat} (hanc : ancOk ops anc = true) (hsz : al.size = ops.size) {K : St → Prop} :
    ∀ (ord : List Nat) (l : List AOper) (listed : Array Bool) (s : St), ord.mapM (al[·]?) = some l → Good ops listed → ordOk ops al anc ord listed = true → awpOps P l K s → aAny P ops al K ord.length listed s
  | [], l, listed, s, hl, hg, ho, h => by
    simp at hl
    subst hl
    exact ⟨by simpa [ordOk] using ho, h⟩
  | i :: ord, l, listed, s, hl, hg, ho, h => by
    simp only [List.mapM_cons, Option.bind_eq_bind, Option.pure_def, Option.bind_eq_some_iff, Option.some.injEq] at hl
    obtain ⟨oi, hi, l', hl', rfl⟩ := hl
    simp only [ordOk, hi, Bool.and_eq_true, Bool.or_eq_true] at ho
    obtain ⟨ho1, ho2⟩ := ho
    simp only [awpOps] at h
    have his : i < ops.size := by have := (Array.getElem?_eq_some_iff.1 hi).1; omega
    rcases ho1 with ho1 | ho1
    · have hr : Region.ready .any ops listed = [i] := by simpa using ho1
      have hmem : i ∈ Region.ready .any ops listed := by rw [hr]; simp
      refine ⟨fun h0 => (by rw [hr] at h0; cases h0), fun j hj => ?_⟩
      rw [hr] at hj
      simp only [List.mem_singleton] at hj
      subst hj
      exact ⟨oi, hi, awpOp_mono (fun s1 hs1 => aAny_ord hanc hsz ord l' _ s1 hl' (good_set hg hmem) ho2 hs1) h⟩
    · obtain ⟨⟨hq, hmem⟩, hall⟩ := ho1
      have hmem' : i ∈ Region.ready .any ops listed := by simpa using hmem
      have hq' : oi.op.cls ≤ 1 := by simpa using hq
      obtain ⟨v, hv, hk⟩ := awpOp_quiet hq' h
      refine aAny_first hanc hi his hq' ord.length listed s v hg hmem' (fun j oj hj hji hun hna => ?_) hv (aAny_ord hanc hsz ord l' _ _ hl' (good_set hg hmem') ho2 hk)
      have hjs : j < al.size := (Array.getElem?_eq_some_iff.1 hj).1
      simp only [List.all_eq_true, List.mem_range] at hall
      have := hall j hjs
      simp only [hj, hun, hna, Bool.or_false, Bool.or_eq_true, beq_iff_eq, hji, false_or, Bool.and_eq_true, decide_eq_true_eq] at this
      exact this

/-- An order to go by: what is quiet first. -/
def pickOrd (ops : Array Oper) (al : Array AOper) : Nat → Array Bool → List Nat
  | 0, _ => []
  | fuel + 1, listed =>
    match (Region.ready .any ops listed).find? (fun i => match al[i]? with | some o => o.op.cls == 0 | none => false) with
    | some i => i :: pickOrd ops al fuel (listed.setIfInBounds i true)
    | none => match (Region.ready .any ops listed).find? (fun i => match al[i]? with | some o => o.op.cls == 1 | none => false) with
      | some i => i :: pickOrd ops al fuel (listed.setIfInBounds i true)
      | none => match Region.ready .any ops listed with
        | i :: _ => i :: pickOrd ops al fuel (listed.setIfInBounds i true)
        | [] => []

/-- A region that draws its order, compiled. -/
def cdraw (P : Program) (An : Ann) (n : Nat) (ops : Array Oper) : Option (List AOper) :=
  match ops.toList.mapM (coper P An n ops) with
  | none => none
  | some l =>
    let al := l.toArray
    let anc := Region.before ops
    let none' := Array.replicate ops.size false
    let ord := pickOrd ops al ops.size none'
    if ancOk ops anc = true ∧ ordOk ops al anc ord none' = true ∧ ord.length = ops.size then ord.mapM (al[·]?) else none

theorem cdraw_sound {r : Option Nat} (hm : P.follows .mixedOrders = true) {An : Ann} {id : Nat} {ops : Array Oper} {l : List AOper} (hc : cdraw P An n ops = some l) {K : St → Prop} {s : St} {e e0 : Env} {H0 : AHeap} {a : Act}
    (h : awpOps P l K s) (g : Gam e n s a) (hdef : Marks e0 e s.H a.defers) (ht : Tr e0 H0 e s.H) {Q : Exit → Act → World → Prop} (hQ : ∀ a w, Nx n e0 H0 K a w → Q .normal a w) :
    (Code.region id ops true).wpIn (FnR r) 0 P Q a e.w := by
  unfold cdraw at hc
  split at hc
  · cases hc
  · rename_i al0 hal
    simp only at hc
    split at hc
    · rename_i hcond
      obtain ⟨h1, h2, h3⟩ := hcond
      obtain ⟨hlen, hget⟩ := mapM_get hal
      have hsz : al0.toArray.size = ops.size := by simpa using hlen
      refine wpIn_region_any hm ?_
      have hg0 : Good ops (Array.replicate ops.size false) := fun k o hk => by
        by_cases hks : k < ops.size
        · simp [hks] at hk
        · simp [hks] at hk
      have hany := aAny_ord (P := P) (K := K) h1 hsz _ l (Array.replicate ops.size false) s hc hg0 h2 h
      rw [h3] at hany
      have hd : Gam e.drew n s a := ⟨g.N, hrep_drew g.H, g.size, fun t => (g.tm t).ext (ext_drew e)⟩
      refine aAny_sound (n := n) (An := An) (fun i ao hi => ?_) hQ ops.size _ s e.drew a hany hd (hdef.tr (tr_drew e s.H)) (ht.trans (tr_drew e s.H))
      simp only [List.getElem?_toArray] at hi
      have hlt : i < ops.size := by have := (List.getElem?_eq_some_iff.1 hi).1; simp at hlen; omega
      exact ⟨ops[i], by simp [hlt], hget i ops[i] ao (by simp [hlt]) hi⟩
    · cases hc

end
end Go.Fw
