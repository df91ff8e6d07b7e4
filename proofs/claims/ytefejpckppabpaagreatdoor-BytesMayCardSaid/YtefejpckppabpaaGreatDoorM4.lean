/- The framework: H1, H2, H3, H4, H5. -/
import Derived.Test.YtefejpckppabpaaGreatDoorM3
import Derived.ProofKit
import Derived.ChangeArms
import Derived.OpenShut
import Derived.LaidMore
import GoSem.ClaimJoined
import Derived.FnData
/- Framework, part 19: numbers that are not in use. -/
namespace Go.Fw
set_option linter.unusedSimpArgs false
set_option linter.unusedVariables false
open Go
set_option linter.unusedSectionVars false
variable [Globals]

def Fresh (H : AHeap) (N : Nat) : Prop := ∀ id, N ≤ id → H id = none

section
variable {P : Program}

theorem HRep.fresh {e : Env} {H : AHeap} (h : HRep e H) : Fresh H e.N := fun id hid => by
  cases ho : H id with
  | none => rfl
  | some o => have := (h.at_ id o ho).1; omega

theorem goodFn_of {An : Ann} {f : FuncId} {x : ACode × List RV × Nat} (hc : codeOf P An f = some x) : goodFn P f = true := by
  unfold codeOf at hc
  split at hc
  · split at hc
    · assumption
    · cases hc
  · cases hc

theorem ACall.fresh {f : FuncId} (hg : goodFn P f = true) {args : List AV} {H : AHeap} {N : Nat} {Q : AV → AHeap → Nat → Prop} (h : Fresh H N → ACall P f args H N Q) : ACall P f args H N Q :=
  ⟨hg, fun e vs hH hN hl hr => (h (hN ▸ hH.fresh)).2 e vs hH hN hl hr⟩

/-- A contract holds with its end's numbers. -/
theorem ACall.monoF {f : FuncId} {args : List AV} {H : AHeap} {N : Nat} {Q Q' : AV → AHeap → Nat → Prop} (h : ACall P f args H N Q) (hq : ∀ r H' N', Q r H' N' → Fresh H' N' → N ≤ N' → Q' r H' N') : ACall P f args H N Q' :=
  ⟨h.1, fun e vs hH hN hl hr => (h.2 e vs hH hN hl hr).mono (by
    rintro x w' ⟨v, e', r, H', hx, hw, hQ, hrep, hH', ht⟩
    exact ⟨v, e', r, H', hx, hw, hq _ _ _ hQ hH'.fresh (by rw [← hN]; exact ht.ext.N), hrep, hH', ht⟩)⟩

theorem acallF (hm : P.follows .mixedOrders = true) {f : FuncId} {An : Ann} {ac : ACode} {l : List RV} {nt : Nat} (hc : codeOf P An f = some (ac, l, nt))
    {args : List AV} (hle : args.length ≤ nt) {H : AHeap} {N : Nat} {Q : AV → AHeap → Nat → Prop} (h : Fresh H N → run P ac [] (fin l Q) ⟨argA args, H, N⟩) : ACall P f args H N Q :=
  .fresh (goodFn_of hc) fun hf => acall hm hc hle (h hf)

theorem Fresh.set {H : AHeap} {N : Nat} (h : Fresh H N) (o : AObj) : Fresh (H.set N o) (N + 1) := fun id hid => by
  simp only [AHeap.set]
  rw [if_neg (by omega)]
  exact h id (by omega)

theorem Fresh.keeps {H : AHeap} {N : Nat} (h : Fresh H N) (o : AObj) : Keeps H (H.set N o) := fun id ob hid => by
  simp only [AHeap.set]
  split
  · rename_i he; subst he; rw [h _ (Nat.le_refl _)] at hid; cases hid
  · exact hid

theorem Fresh.lt {H : AHeap} {N id : Nat} {o : AObj} (h : Fresh H N) (hid : H id = some o) : id < N := by
  rcases Nat.lt_or_ge id N with h1 | h1
  · exact h1
  · rw [h id h1] at hid; cases hid

end
end Go.Fw

/- Framework, part 20: from a contract to a row's 'post'. -/
namespace Go.Fw
set_option linter.unusedSimpArgs false
set_option linter.unusedVariables false
open Go Go.RowKit Go.ChangeAt Go.ChangeShapes Go.WideShapes
set_option linter.unusedSectionVars false
variable [Globals]

section
variable {P : Program} {H : Type} {enc : TypeId × Value → H}

/-- The ghost side at a law's start: all that is there stays. -/
def Env.start (W : World) : Env := { w := W, I := fun b => b < W.heap.size, ρ := fun _ => (0, 0), N := 0 }

/-- A law's contract, at a world. -/
theorem globOk_none (h : ∀ g, Globals.tbl g = none) (e : Env) : GlobOk e := fun g cs hg => by rw [h g] at hg; cases hg

theorem PCall.calls {f : FuncId} {args : List AV} {r : AV} (h : PCall P f args r) (W : World) (hG : GlobOk (Env.start W)) {vs : List Value} (hl : vs.length = args.length)
    (hr : ∀ (i : Nat) (c : AV) (v : Value), args[i]? = some c → vs[i]? = some v → Rep (Env.start W) c v) :
    Calls P f vs.toArray W (fun x W' => ∃ v e', x = .returned v ∧ e'.w = W' ∧ Rep e' r v ∧ Below W.heap.size W W') := by
  refine (h.2 (Env.start W) vs ⟨fun b hb => hb, hG⟩ hl hr).mono ?_
  rintro x W' ⟨v, e', rfl, rfl, hrep, ht⟩
  exact ⟨v, e', rfl, rfl, hrep, ⟨ht.os, ht.tape, ht.output, ht.size, ht.old⟩⟩

/-- A law over numbers. -/
theorem PCall.calls_lits {f : FuncId} {vs : List Value} {b : Bool} (h : PCall P f (vs.map AV.lit) (.lit (.bool b))) (W : World) (hG : GlobOk (Env.start W)) :
    Calls P f vs.toArray W (fun x W' => x = .returned (.bool b) ∧ Below W.heap.size W W') := by
  refine (h.calls W hG (by simp) (fun i c v hc hv => ?_)).mono ?_
  · simp only [List.getElem?_map, hv, Option.map_some, Option.some.injEq] at hc
    subst hc
    exact .lit v
  · rintro x W' ⟨v, e', rfl, rfl, hrep, hb⟩
    cases hrep
    exact ⟨rfl, hb⟩

theorem i64_range {n : Int} (w : (Lit.int .i64 n).wf = true) : -9223372036854775808 ≤ n ∧ n < 9223372036854775808 := by
  simp [Lit.wf, IntKind.min, IntKind.max, IntKind.bits, IntKind.signed] at w
  omega

theorem ACall.calls {f : FuncId} {args : List AV} (h : ACall P f args noHeap 0 (fun r _ _ => r = .lit (.bool true))) (W : World) (hG : GlobOk (Env.start W)) {vs : List Value} (hl : vs.length = args.length)
    (hr : ∀ (i : Nat) (c : AV) (v : Value), args[i]? = some c → vs[i]? = some v → Rep (Env.start W) c v) :
    Calls P f vs.toArray W (fun x W' => x = .returned (.bool true) ∧ Below W.heap.size W W') := by
  have hH : HRep (Env.start W) noHeap := ⟨(fun id o ho => by cases ho), (fun i j o o' ho => by cases ho), fun b hb => hb, hG⟩
  refine (h.2 (Env.start W) vs hH rfl hl hr).mono ?_
  rintro x W' ⟨v, e', r, H', rfl, rfl, rfl, hrep, hH', ht⟩
  cases hrep
  exact ⟨rfl, ht.os, ht.tape, ht.output, ht.size, fun b hb => ht.fr b hb (fun ⟨id, o, ho, _⟩ => by cases ho)⟩

/-- 'post' of a function that only makes memory. -/
theorem post_of_below {f : Func} {s : ChangeSpec} {apart fresh handsOn again : Bool} {W W' : World} {args : Array Value} {v : Value} {ds gs : List (DataW H)} {before pa pv : List MemPlace}
    (hW : DataW.Whole enc P f.params.toList s.vars apart W args.toList ds gs before) (hb : Below W.heap.size W W')
    (hres : ∀ (b : Nat) (sp : Nat → Bool) (hd : Bool), DataW.TrodAll enc P W' b sp hd f.resultTypes.toList (v.resultList f.resultTypes.size) (s.fn H (ds ++ gs)).results [])
    (hargs : ∀ sp : Nat → Bool, (∀ p ∈ before, sp p.block = true) → DataW.TrodAll enc P W' 0 sp true f.params.toList args.toList (s.fn H (ds ++ gs)).args pa)
    (hvars : ∀ sp : Nat → Bool, (∀ p ∈ before, sp p.block = true) → DataW.TrodVars enc P W' sp s.vars (s.fn H (ds ++ gs)).vars pv)
    (hps : before = pa ++ pv)
    (hok : ∀ (j : Nat) (t : TypeId) (r : Value), f.resultTypes[j]? = some t → (v.resultList f.resultTypes.size)[j]? = some r → Value.okWide P W' .any 0 t r) :
    s.post enc P f apart fresh handsOn again W args v W' := by
  have hold : ∀ p ∈ before, (fun b => decide (b < W.heap.size)) p.block = true := fun p hp => by simpa using hW.lt p hp
  have hlt : ∀ p ∈ before, p.block < W.heap.size := fun p hp => by simpa using hW.lt p hp
  refine ⟨ds, gs, before, [], pa, pv, hW, hres _ _ _, hargs _ hold, hvars _ hold, World.keptBut_mono (fun p hp => ⟨hp, ?_⟩) (hb.frame (· ∈ before)), fun _ => ?_⟩
  · rw [hps, List.mem_append] at hp
    exact Or.inr hp
  · obtain ⟨_, _, _, _, _, hz, hn⟩ := hW
    refine ⟨hok, _, _, ([] ++ pa) ++ pv, ⟨[] ++ pa, pv, trodAll_append (hargs _ (fun _ _ => rfl)) (hres _ _ _), hvars _ (fun _ _ => rfl), rfl, ?_, ?_⟩, ?_⟩
    · intro b off hp
      have hp' : MemPlace.cell b off ∈ before := by rw [hps]; simpa using hp
      rw [hb.frozen (p := ⟨b, off, none⟩) (hlt _ hp')]
      exact hz b off hp'
    · intro ha
      have := hn ha
      rw [hps] at this
      simpa using this
    · intro p hp _
      rw [hps]
      simpa using hp

end
end Go.Fw

/- Framework, part 21: what an argument reads as, as an abstract value. -/
namespace Go.Fw
set_option linter.unusedSimpArgs false
set_option linter.unusedVariables false
open Go Go.RowKit
set_option linter.unusedSectionVars false
variable [Globals]

/-- Cells of a type that is made of numbers, truths, texts, slices and structs. -/
def Lays (P : Program) : Nat → TypeId → List AV → Prop
  | 0, _, _ => False
  | n + 1, t, as => match P.underlying t with
    | some .bool => ∃ b, as = [.lit (.bool b)]
    | some (.int k) => ∃ m, as = [.lit (.int k m)] ∧ (Lit.int k m).wf = true
    | some .string => ∃ s, as = [.lit (.string s)] ∧ s.size ≤ maxLen
    | some (.slice e) => ∃ kd es, as = [.sl kd (P.cellsOf e) es] ∧ (kd = .nil ∧ es = [] ∨ kd = .any) ∧ es.length ≤ maxLen ∧ ∀ x ∈ es, Lays P n e x
    | some (.struct fs) => ∃ parts : List (List AV), as = parts.flatten ∧ parts.length = fs.size ∧ ∀ (i : Nat) (f : Field) (p : List AV), fs[i]? = some f → parts[i]? = some p → Lays P n f.type p
    | _ => False

/-- Do the fields lie side by side from here? -/
def tilesB (P : Program) : List Field → Nat → Nat → Bool
  | [], off, total => off == total
  | f :: fs, off, total => f.offset == off && tilesB P fs (off + P.cellsOf f.type) total

/-- Types that hold nothing but one another. -/
def closedB (P : Program) (S : List TypeId) : Bool := S.all fun t => match P.underlying t with
  | some .bool => true
  | some (.int _) => true
  | some .string => true
  | some (.slice e) => S.contains e && decide (0 < P.cellsOf e)
  | some (.struct fs) => fs.toList.all (fun f => S.contains f.type) && tilesB P fs.toList 0 (P.cellsOf t)
  | _ => false

section
variable {P : Program} {H : Type} {enc : TypeId × Value → H}

theorem choose_list {α : Type} {Q : Nat → α → Prop} : ∀ (n : Nat), (∀ i, i < n → ∃ x, Q i x) → ∃ l : List α, l.length = n ∧ ∀ (i : Nat) (x : α), l[i]? = some x → Q i x
  | 0, _ => ⟨[], rfl, fun i x h => by simp at h⟩
  | n + 1, h => by
    obtain ⟨l, h1, h2⟩ := choose_list n (fun i hi => h i (by omega))
    obtain ⟨x, hx⟩ := h n (by omega)
    refine ⟨l ++ [x], by simp [h1], fun i y hy => ?_⟩
    by_cases hi : i < l.length
    · rw [List.getElem?_append_left hi] at hy; exact h2 i y hy
    · have : i < (l ++ [x]).length := (List.getElem?_eq_some_iff.1 hy).1
      simp at this
      obtain rfl : i = l.length := by omega
      simp at hy
      subst hy
      rw [h1]; exact hx

theorem mapM_range {α : Type} {f : Nat → Option α} {n : Nat} {r : List α} (h : (List.range n).mapM f = some r) : ∀ i, i < n → ∃ y, f i = some y ∧ r[i]? = some y := fun i hi => by
  obtain ⟨h1, h2⟩ := mapM_get h
  have hl : i < r.length := by rw [h1]; simpa using hi
  have := h2 i i r[i] (by simp [hi]) (by simp [hl])
  exact ⟨r[i], this, by simp [hl]⟩

theorem cells?_spec {w : World} {base : Nat} {a : Addr} {n : Nat} {us : List Value} (h : w.cells? base a n = some us) : us.length = n ∧ ∀ (i : Nat) (u : Value), us[i]? = some u → w.cell? (a.add i) = some u := by
  unfold World.cells? at h
  split at h
  · obtain ⟨h1, h2⟩ := mapM_get h
    refine ⟨by simpa using h1, fun i u hu => ?_⟩
    have hi : i < n := by have := (List.getElem?_eq_some_iff.1 hu).1; simp at h1; omega
    exact h2 i i u (by simp [hi]) hu
  · cases h

theorem lt_of_cell {w : World} {a : Addr} {v : Value} (h : w.cell? a = some v) : a.block < w.heap.size ∧ a.spot = none := by
  unfold World.cell? at h
  split at h
  · rename_i hg
    refine ⟨lt_of_heap hg, ?_⟩
    split at h
    · cases h
    · rename_i hs; simpa using hs
  · cases h

theorem add_eq {a : Addr} (h : a.spot = none) (n : Nat) : a.add n = ⟨a.block, a.off + n, none⟩ := by
  obtain ⟨b, o, s⟩ := a
  simp only at h
  subst h
  exact addr_add b o n

theorem fields_rep {S : List TypeId} {w : World} {fuel : Nat} {cs : List Value} (ih : ∀ (t : TypeId) (cs : List Value) (x : DataW H × List MemPlace), t ∈ S →
      DataW.trod enc P w 0 (fun _ => true) true fuel t cs = some x → ∃ as, RelC (Env.start w) as cs ∧ Lays P fuel t as) : ∀ (fs : List Field) (off : Nat) (xs : List (DataW H × List MemPlace)),
    tilesB P fs off cs.length = true → (∀ f ∈ fs, f.type ∈ S) → fs.mapM (fun f => DataW.trod enc P w 0 (fun _ => true) true fuel f.type ((cs.drop f.offset).take (P.cellsOf f.type))) = some xs →
    ∃ parts : List (List AV), parts.length = fs.length ∧ RelC (Env.start w) parts.flatten (cs.drop off) ∧ ∀ (i : Nat) (f : Field) (p : List AV), fs[i]? = some f → parts[i]? = some p → Lays P fuel f.type p
  | [], off, xs, ht, _, _ => by
    simp only [tilesB, beq_iff_eq] at ht
    subst ht
    exact ⟨[], rfl, ⟨by simp, fun i a u ha => by simp at ha⟩, fun i f p hf => by simp at hf⟩
  | f :: fs, off, xs, ht, hS, h => by
    simp only [tilesB, Bool.and_eq_true, beq_iff_eq] at ht
    obtain ⟨rfl, ht⟩ := ht
    simp only [List.mapM_cons, Option.bind_eq_bind, Option.pure_def, Option.bind_eq_some_iff, Option.some.injEq] at h
    obtain ⟨y, hy, r, hr, rfl⟩ := h
    obtain ⟨as, h1, h2⟩ := ih _ _ _ (hS f (by simp)) hy
    obtain ⟨parts, h3, h4, h5⟩ := fields_rep ih fs _ r ht (fun g hg => hS g (by simp [hg])) hr
    refine ⟨as :: parts, by simp [h3], ?_, fun i g p hg hp => ?_⟩
    · have hd : cs.drop f.offset = (cs.drop f.offset).take (P.cellsOf f.type) ++ cs.drop (f.offset + P.cellsOf f.type) := by
        rw [← List.drop_drop, List.take_append_drop]
      rw [hd, List.flatten_cons]
      exact h1.append h4
    · cases i with
      | zero => simp at hg hp; subst hg; subst hp; exact h2
      | succ i => exact h5 i g p (by simpa using hg) (by simpa using hp)

/-- What a reading met, as abstract cells. -/
theorem trod_rep {S : List TypeId} (hS : closedB P S = true) {w : World} : ∀ (fuel : Nat) (t : TypeId) (cs : List Value) (x : DataW H × List MemPlace), t ∈ S →
    DataW.trod enc P w 0 (fun _ => true) true fuel t cs = some x → ∃ as, RelC (Env.start w) as cs ∧ Lays P fuel t as
  | 0, t, cs, x, _, h => by simp [DataW.trod] at h
  | fuel + 1, t, cs, x, ht, h => by
    have ih := trod_rep hS (w := w) fuel
    have one : ∀ (a : AV) (v : Value), v.oneCell' = true → Rep (Env.start w) a v → RelC (Env.start w) [a] [v] := fun a v h1 h2 =>
      ⟨rfl, fun i b u hb hu => by
        cases i with
        | zero => simp at hb hu; subst hb; subst hu; exact ⟨h1, h2⟩
        | succ i => simp at hb⟩
    have hc := List.all_eq_true.1 hS t ht
    unfold DataW.trod at h
    cases hu : P.underlying t with
    | none => rw [hu] at hc; cases hc
    | some d =>
      rw [hu] at hc h
      cases d <;> simp only [reduceCtorEq] at hc
      case bool =>
        split at h
        case h_1 => exact ⟨_, one (.lit (.bool _)) _ rfl (.lit _), by simp only [Lays, hu]; exact ⟨_, rfl⟩⟩
        all_goals first | (rename_i he _; cases he; done) | (rename_i he _ _; cases he; done) | (cases h; done) | (simp_all; done)
      case int k =>
        split at h
        case h_2 k1 k2 n he =>
          cases he
          split at h
          · rename_i hk
            obtain ⟨rfl, hw⟩ := hk
            exact ⟨_, one (.lit (.int _ n)) _ rfl (.lit _), by simp only [Lays, hu]; exact ⟨n, rfl, hw⟩⟩
          · cases h
        all_goals first | (rename_i he _; cases he; done) | (rename_i he _ _; cases he; done) | (cases h; done) | (simp_all; done)
      case string =>
        split at h
        case h_4 s he =>
          split at h
          · rename_i hk
            exact ⟨_, one (.lit (.string s)) _ rfl (.lit _), by simp only [Lays, hu]; exact ⟨s, rfl, hk⟩⟩
          · cases h
        all_goals first | (rename_i he _; cases he; done) | (rename_i he _ _; cases he; done) | (cases h; done) | (simp_all; done)
      case slice e =>
        simp only [Bool.and_eq_true, List.contains_iff_mem, decide_eq_true_eq] at hc
        obtain ⟨he, hpos⟩ := hc
        split at h
        case h_7 e' he' =>
          exact ⟨[.sl .nil (P.cellsOf e) []], one _ _ rfl (.slNil _), by simp only [Lays, hu]; exact ⟨.nil, [], rfl, .inl ⟨rfl, rfl⟩, by simp, by simp⟩⟩
        case h_8 e' a len cap he' =>
          cases he'
          simp only at h
          split at h
          · rename_i hcond
            obtain ⟨_, hlc, hcm⟩ := hcond
            obtain ⟨elems, hel, h⟩ := Option.bind_eq_some_iff.1 h
            simp only [if_true, Option.map_eq_some_iff] at h
            obtain ⟨rest, hrest, _⟩ := h
            have hA := mapM_range hel
            have hB := mapM_range hrest
            -- the elements
            obtain ⟨es, hesl, hes⟩ := choose_list (Q := fun i as => ∃ us, w.cells? 0 (a.add (i * P.cellsOf e)) (P.cellsOf e) = some us ∧ RelC (Env.start w) as us ∧ Lays P fuel e as) len (fun i hi => by
              obtain ⟨y, hy, _⟩ := hA i hi
              obtain ⟨us, h1, h2⟩ := Option.bind_eq_some_iff.1 hy
              obtain ⟨as, h3, h4⟩ := ih e us y he h2
              exact ⟨as, us, h1, h3, h4⟩)
            have hspot : 0 < cap → a.spot = none ∧ a.block < w.heap.size := fun h0 => by
              have : ∃ us, w.cells? 0 (a.add (0 * P.cellsOf e)) (P.cellsOf e) = some us := by
                by_cases hl : 0 < len
                · obtain ⟨y, hy, _⟩ := hA 0 hl
                  obtain ⟨us, h1, _⟩ := Option.bind_eq_some_iff.1 hy
                  exact ⟨us, h1⟩
                · obtain ⟨y, hy, _⟩ := hB 0 (by omega)
                  obtain ⟨us, h1, _⟩ := Option.bind_eq_some_iff.1 hy
                  exact ⟨us, by rw [show len + 0 = 0 by omega] at h1; exact h1⟩
              obtain ⟨us, h1⟩ := this
              obtain ⟨h2, h3⟩ := cells?_spec h1
              have h4 := h3 0 (us[0]'(by omega)) (by simp)
              rw [show a.add (0 * P.cellsOf e) = a by simp [Addr.add], show a.add 0 = a by simp [Addr.add]] at h4
              have := lt_of_cell h4
              exact ⟨this.2, this.1⟩
            have hlay : Lays P (fuel + 1) t [.sl .any (P.cellsOf e) es] := by
              simp only [Lays, hu]
              refine ⟨.any, es, rfl, .inr rfl, by omega, fun x hx => ?_⟩
              obtain ⟨i, hi, rfl⟩ := List.getElem_of_mem hx
              obtain ⟨us, _, _, h4⟩ := hes i es[i] (by simp [hi])
              exact h4
            refine ⟨[.sl .any (P.cellsOf e) es], one _ _ rfl ?_, hlay⟩
            by_cases h0 : cap = 0
            · have hl0 : len = 0 := by omega
              have : es = [] := List.eq_nil_of_length_eq_zero (by omega)
              subst this; subst h0; subst hl0
              exact .slE (by simp)
            · obtain ⟨hsp, hblk⟩ := hspot (by omega)
              obtain ⟨b, o, s⟩ := a
              simp only at hsp hblk
              subst hsp
              have hrep := rep_sl_intro (e := Env.start w) (k := .any) (sz := P.cellsOf e) (es := es) (b := b) (o := o) (cap := cap) (by simp) (fun _ => hblk) (by omega) (by simp)
                (fun x hx => by
                  obtain ⟨i, hi, rfl⟩ := List.getElem_of_mem hx
                  obtain ⟨us, h1, h2, _⟩ := hes i es[i] (by simp [hi])
                  rw [← h2.1, (cells?_spec h1).1])
                (fun i x hx j c hj => by
                  obtain ⟨us, h1, h2, _⟩ := hes i x hx
                  have hjl : j < us.length := by have := (List.getElem?_eq_some_iff.1 hj).1; rw [h2.1]; exact this
                  obtain ⟨h3, h4⟩ := h2.2 j c us[j] hj (by simp [hjl])
                  have h5 := (cells?_spec h1).2 j us[j] (by simp [hjl])
                  rw [addr_add, addr_add] at h5
                  exact ⟨us[j], h5, h3, h4⟩)
              rw [hesl] at hrep
              exact hrep
          · cases h
        all_goals first | (rename_i he _; cases he; done) | (rename_i he _ _; cases he; done) | (cases h; done) | (simp_all; done)
      case struct fs =>
        simp only [Bool.and_eq_true, List.all_eq_true, List.contains_iff_mem] at hc
        obtain ⟨hin, htile⟩ := hc
        split at h
        case h_9 fs' cs' he' =>
          cases he'
          split at h
          · rename_i hlen
            simp only [Option.map_eq_some_iff] at h
            obtain ⟨xs, hxs, _⟩ := h
            rw [← hlen] at htile
            obtain ⟨parts, h1, h2, h3⟩ := fields_rep ih fs.toList 0 xs htile (fun f hf => hin f hf) hxs
            refine ⟨parts.flatten, by simpa using h2, ?_⟩
            simp only [Lays, hu]
            exact ⟨parts, rfl, by simpa using h1, fun i f p hf hp => h3 i f p (by simpa using hf) hp⟩
          · cases h
        all_goals first | (rename_i he _; cases he; done) | (rename_i he _ _; cases he; done) | (cases h; done) | (simp_all; done)

/-- What an argument reads as. -/
theorem arg_rep {S : List TypeId} (hS : closedB P S = true) {w : World} {t : TypeId} {v : Value} {d : DataW H} {ps : List MemPlace} (ht : t ∈ S)
    (h : DataW.Trod enc P w 0 (fun _ => true) true t v d ps) : ∃ as n, RelC (Env.start w) as v.cells.toList ∧ Lays P n t as := by
  obtain ⟨fuel, h⟩ := h
  obtain ⟨as, h1, h2⟩ := trod_rep hS fuel t _ _ ht h
  exact ⟨as, fuel, h1, h2⟩

end
end Go.Fw

/- Framework, part 22: rows over any plain arguments. -/
namespace Go.Fw
set_option linter.unusedSimpArgs false
set_option linter.unusedVariables false
open Go Go.RowKit Go.ChangeAt Go.ChangeShapes Go.WideShapes
set_option linter.unusedSectionVars false
variable [Globals]

section
variable {P : Program} {H : Type} {enc : TypeId × Value → H}

theorem trodAll_below (hl : laidOutB P = true) {W W' : World} (hb : Below W.heap.size W W') {sp : Nat → Bool} : ∀ (ts : List TypeId) (vs : List Value) (ds : List (DataW H)) (ps : List MemPlace), (∀ t ∈ ts, P.readableRec t = true ∧ t < P.types.size) →
    DataW.TrodAll enc P W 0 (fun _ => true) true ts vs ds ps → (∀ x ∈ ps, x.block < W.heap.size) → (∀ x ∈ ps, sp x.block = true) → DataW.TrodAll enc P W' 0 sp true ts vs ds ps
  | [], [], [], ps, _, h, _, _ => h
  | t :: ts, v :: vs, d :: ds, ps, ht, h, hlt, hsp => by
    obtain ⟨p, q, h1, h2, rfl⟩ := h
    obtain ⟨hr, hrow⟩ := ht t (by simp)
    refine ⟨p, q, WideElems.Trod_stays hl hr hrow h1 (fun x hx => hb.same (hlt x (by simp [hx]))) (fun x hx => hsp x (by simp [hx])), ?_, rfl⟩
    exact trodAll_below hl hb ts vs ds q (fun t ht' => ht t (by simp [ht'])) h2 (fun x hx => hlt x (by simp [hx])) (fun x hx => hsp x (by simp [hx]))
  | [], _ :: _, _, _, _, h, _, _ => h.elim
  | [], [], _ :: _, _, _, h, _, _ => h.elim
  | _ :: _, [], _, _, _, h, _, _ => h.elim
  | _ :: _, _ :: _, [], _, _, h, _, _ => h.elim

/-- An argument of a plain type, as an abstract value. -/
def Arg (P : Program) (t : TypeId) (a : AV) : Prop := ∃ as n, Lays P n t as ∧ a = (match P.underlying t with | some (.struct _) => AV.agg as | _ => as.headD .junk)

theorem arg_av {S : List TypeId} (hS : closedB P S = true) {w : World} {base : Nat} {t : TypeId} {v : Value} {d : DataW H} {ps : List MemPlace} (ht : t ∈ S)
    (hok : Value.okWide P w .any base t v) (h : DataW.Trod enc P w 0 (fun _ => true) true t v d ps) : ∃ a, Rep (Env.start w) a v ∧ Arg P t a := by
  obtain ⟨as, n, h1, h2⟩ := arg_rep hS ht h
  by_cases hst : ∃ fs, P.underlying t = some (.struct fs)
  · obtain ⟨fs, hfs⟩ := hst
    simp only [Value.okWide, hfs] at hok
    obtain ⟨cs, rfl, _⟩ := hok
    simp only [Value.cells] at h1
    refine ⟨.agg as, .agg (vs := cs.toList) h1.1 (fun u hu => ?_) (fun i c u hc hu => (h1.2 i c u hc hu).2), as, n, h2, by rw [hfs]⟩
    obtain ⟨i, hi, rfl⟩ := List.getElem_of_mem hu
    have hi' : i < as.length := by rw [← h1.1]; exact hi
    exact (h1.2 i as[i] _ (by simp [hi']) (by simp at hi; simp [hi])).1
  · have hone : (∃ a, as = [a]) ∧ v.cells = #[v] := by
      cases n with
      | zero => exact h2.elim
      | succ n =>
        simp only [Lays] at h2
        split at h2
        · rename_i hu
          obtain ⟨b, rfl⟩ := h2
          refine ⟨⟨_, rfl⟩, ?_⟩
          cases v <;> first | rfl | (simp [Value.okWide, hu, Cell.okWide, Cell.ok] at hok; done)
        · rename_i hu
          obtain ⟨m, rfl, _⟩ := h2
          refine ⟨⟨_, rfl⟩, ?_⟩
          cases v <;> first | rfl | (simp [Value.okWide, hu, Cell.okWide, Cell.ok] at hok; done)
        · rename_i hu
          obtain ⟨s, rfl, _⟩ := h2
          refine ⟨⟨_, rfl⟩, ?_⟩
          cases v <;> first | rfl | (simp [Value.okWide, hu, Cell.okWide, Cell.ok] at hok; done)
        · rename_i hu
          obtain ⟨kd, es, rfl, _⟩ := h2
          refine ⟨⟨_, rfl⟩, ?_⟩
          cases v <;> first | rfl | (simp [Value.okWide, hu, Cell.okWide, Cell.ok] at hok; done)
        · rename_i fs hfs; exact absurd ⟨fs, hfs⟩ hst
        · exact h2.elim
    obtain ⟨⟨a, rfl⟩, hv⟩ := hone
    refine ⟨a, ?_, [a], n, h2, ?_⟩
    · rw [hv] at h1
      exact (h1.2 0 a v (by simp) (by simp)).2
    · split
      · rename_i fs hfs; exact absurd ⟨fs, hfs⟩ hst
      · rfl

/-- All arguments, as abstract values. -/
theorem args_av {S : List TypeId} (hS : closedB P S = true) {w : World} {base : Nat} : ∀ (ts : List TypeId) (vs : List Value) (ds : List (DataW H)) (ps : List MemPlace), (∀ t ∈ ts, t ∈ S) →
    (∀ (j : Nat) (t : TypeId) (v : Value), ts[j]? = some t → vs[j]? = some v → Value.okWide P w .any base t v) → DataW.TrodAll enc P w 0 (fun _ => true) true ts vs ds ps →
    ∃ as : List AV, vs.length = as.length ∧ as.length = ts.length ∧ (∀ (i : Nat) (c : AV) (v : Value), as[i]? = some c → vs[i]? = some v → Rep (Env.start w) c v) ∧ ∀ (i : Nat) (t : TypeId) (a : AV), ts[i]? = some t → as[i]? = some a → Arg P t a
  | [], [], [], _, _, _, _ => ⟨[], rfl, rfl, fun i c v hc => by simp at hc, fun i t a hc => by simp at hc⟩
  | t :: ts, v :: vs, d :: ds, ps, hin, hok, h => by
    obtain ⟨p, q, h1, h2, rfl⟩ := h
    obtain ⟨a, g1, g2⟩ := arg_av hS (hin t (by simp)) (hok 0 t v rfl rfl) h1
    obtain ⟨as, k1, k2, k3, k4⟩ := args_av hS ts vs ds q (fun t ht => hin t (by simp [ht])) (fun j t v hj hv => hok (j + 1) t v (by simpa using hj) (by simpa using hv)) h2
    refine ⟨a :: as, by simp [k1], by simp [k2], fun i c u hc hu => ?_, fun i t' b ht hb => ?_⟩
    · cases i with
      | zero => simp at hc hu; subst hc; subst hu; exact g1
      | succ i => exact k3 i c u (by simpa using hc) (by simpa using hu)
    · cases i with
      | zero => simp at ht hb; subst ht; subst hb; exact g2
      | succ i => exact k4 i t' b (by simpa using ht) (by simpa using hb)
  | [], _ :: _, _, _, _, _, h => h.elim
  | [], [], _ :: _, _, _, _, h => h.elim
  | _ :: _, [], _, _, _, _, h => h.elim
  | _ :: _, _ :: _, [], _, _, _, h => h.elim

/-- A law over plain arguments: what its row's step asks. -/
theorem law_step {S : List TypeId} (hS : closedB P S = true) (hl : laidOutB P = true) {f : FuncId} {fn : Func} {s : ChangeSpec} {apart fresh handsOn again : Bool} {tb : TypeId}
    (hpar : ∀ t ∈ fn.params.toList, t ∈ S ∧ P.readableRec t = true ∧ t < P.types.size) (hvars : s.vars = []) (hres : fn.resultTypes = #[tb]) (htb : P.underlying tb = some .bool)
    (hfn : ∀ ds : List (DataW H), ds.length = fn.params.size → s.fn H ds = { results := [.lit (.bool true)], args := ds })
    (hcon : ∀ as : List AV, as.length = fn.params.size → (∀ (i : Nat) (t : TypeId) (a : AV), fn.params[i]? = some t → as[i]? = some a → Arg P t a) → ACall P f as noHeap 0 (fun r _ _ => r = .lit (.bool true)))
    {W : World} {base : Nat} {args : Array Value} {ds gs : List (DataW H)} {before : List MemPlace}
    (hval : ∀ (j : Nat) (t : TypeId) (v : Value), fn.params[j]? = some t → args[j]? = some v → Value.okWide P W .any base t v)
    (hW : DataW.Whole enc P fn.params.toList s.vars apart W args.toList ds gs before) (hG : GlobOk (Env.start W)) :
    Calls P f args W (fun x W' => ∃ v, x = .returned v ∧ s.post enc P fn apart fresh handsOn again W args v W') := by
  have hW' := hW
  obtain ⟨p, q, hA, hV, rfl, hfz, hnd⟩ := hW
  rw [hvars] at hV
  have hgq : gs = [] ∧ q = [] := by
    cases gs with
    | nil => exact ⟨rfl, hV⟩
    | cons g gs => exact hV.elim
  obtain ⟨rfl, rfl⟩ := hgq
  obtain ⟨as, h1, h2, h3, h4⟩ := args_av hS fn.params.toList args.toList ds p (fun t ht => (hpar t ht).1) (fun j t v hj hv => hval j t v (by simpa using hj) (by simpa using hv)) hA
  have hds : ds.length = fn.params.size := by
    have key : ∀ (ts : List TypeId) (vs : List Value) (ds : List (DataW H)) (ps : List MemPlace), DataW.TrodAll enc P W 0 (fun _ => true) true ts vs ds ps → ds.length = ts.length := by
      intro ts
      induction ts with
      | nil => intro vs ds ps h; cases vs <;> cases ds <;> first | rfl | exact h.elim
      | cons t ts ih =>
        intro vs ds ps h
        cases vs with
        | nil => exact h.elim
        | cons v vs =>
          cases ds with
          | nil => exact h.elim
          | cons d ds => obtain ⟨_, q, _, h2, _⟩ := h; simp [ih vs ds q h2]
    simpa using key _ _ _ _ hA
  have hc := (hcon as (by simpa using h2) (fun i t a ht ha => h4 i t a (by simpa using ht) ha)).calls W hG (vs := args.toList) h1 h3
  refine hc.mono fun x W' ⟨hx, hb⟩ => ⟨.bool true, hx, ?_⟩
  have hlt : ∀ y ∈ p, y.block < W.heap.size := fun y hy => by simpa using hW'.lt y (by simpa using hy)
  refine post_of_below (pa := p) (pv := []) hW' hb (fun b sp hd => ?_) (fun sp hsp => ?_) (fun sp _ => ?_) (by simp) ?_
  · rw [List.append_nil, hfn ds hds, hres]
    exact ⟨[], [], shut_bool htb _, rfl, rfl⟩
  · rw [List.append_nil, hfn ds hds]
    exact trodAll_below hl hb _ _ _ _ (fun t ht => (hpar t ht).2) hA hlt (fun y hy => hsp y (by simpa using hy))
  · rw [List.append_nil, hfn ds hds, hvars]
    rfl
  · exact ok_one hres rfl (okWide_bool_mk htb _)

end
end Go.Fw

/- Framework, part 24: package-level variables that a row lays. -/
namespace Go.Fw
set_option linter.unusedSimpArgs false
set_option linter.unusedVariables false
open Go Go.RowKit Go.ChangeShapes
set_option linter.unusedSectionVars false
variable [Globals]

mutual
/-- The cells of a datum that is made of numbers, truths and texts. -/
def dvals {H : Type} : DataW H → List Value
  | .lit (.bool b) => [.bool b]
  | .lit (.int k n) => [.int k n]
  | .lit (.string l) => [.string ⟨⟨l⟩⟩]
  | .agg parts => dvalsAll parts
  | _ => []
def dvalsAll {H : Type} : List (DataW H) → List Value
  | [] => []
  | d :: r => dvals d ++ dvalsAll r
end

/-- Types that hold nothing but one another: numbers, truths, texts, structs, arrays. -/
def flatB (P : Program) (S : List TypeId) : Bool := S.all fun t => match P.underlying t with
  | some .bool => true
  | some (.int _) => true
  | some .string => true
  | some (.array n e) => S.contains e && (n * P.cellsOf e == P.cellsOf t)
  | some (.struct fs) => fs.toList.all (fun f => S.contains f.type) && tilesB P fs.toList 0 (P.cellsOf t)
  | _ => false

section
variable {P : Program} {H : Type} {enc : TypeId × Value → H}

theorem array_flat {w : World} {base : Nat} {spare : Nat → Bool} {held : Bool} {m k : Nat} {e : TypeId} (ih : ∀ (cs : List Value) (x : DataW H × List MemPlace), DataW.trod enc P w base spare held m e cs = some x → cs = dvals x.1 ∧ ∀ c ∈ cs, c.oneCell' = true) :
    ∀ (n : Nat) (cs : List Value) (xs : List (DataW H × List MemPlace)), cs.length = n * k → xs.length = n → (∀ i, i < n → DataW.trod enc P w base spare held m e ((cs.drop (i * k)).take k) = xs[i]?) →
      cs = dvalsAll (xs.map (·.1)) ∧ ∀ c ∈ cs, c.oneCell' = true
  | 0, cs, xs, hc, hx, _ => by
    have h1 : cs = [] := List.eq_nil_of_length_eq_zero (by simpa using hc)
    have h2 : xs = [] := List.eq_nil_of_length_eq_zero hx
    subst h1; subst h2
    exact ⟨by simp [dvalsAll], by simp⟩
  | n + 1, cs, [], hc, hx, _ => by simp at hx
  | n + 1, cs, x :: xs, hc, hx, h => by
    have h0 := h 0 (by omega)
    simp at h0
    obtain ⟨e1, o1⟩ := ih _ _ h0
    obtain ⟨e2, o2⟩ := array_flat (k := k) ih n (cs.drop k) xs (by simp [hc, Nat.add_mul]) (by simpa using hx) (fun i hi => by
      have := h (i + 1) (by omega)
      rw [List.drop_drop, show k + i * k = (i + 1) * k by rw [Nat.add_mul]; omega]
      simpa using this)
    refine ⟨?_, fun c hc' => ?_⟩
    · simp only [List.map_cons, dvalsAll]
      rw [← e1, ← e2, List.take_append_drop]
    · rw [← List.take_append_drop k cs, List.mem_append] at hc'
      exact hc'.elim (o1 c) (o2 c)

theorem fields_flat {S : List TypeId} {w : World} {base : Nat} {spare : Nat → Bool} {held : Bool} {m : Nat} (ih : ∀ (t : TypeId) (cs : List Value) (x : DataW H × List MemPlace), t ∈ S → DataW.trod enc P w base spare held m t cs = some x → cs = dvals x.1 ∧ ∀ c ∈ cs, c.oneCell' = true)
    {cs : List Value} : ∀ (fs : List Field) (off : Nat) (xs : List (DataW H × List MemPlace)), tilesB P fs off cs.length = true → (∀ f ∈ fs, f.type ∈ S) → xs.length = fs.length →
      (∀ (i : Nat) (f : Field), fs[i]? = some f → DataW.trod enc P w base spare held m f.type ((cs.drop f.offset).take (P.cellsOf f.type)) = xs[i]?) → cs.drop off = dvalsAll (xs.map (·.1)) ∧ ∀ c ∈ cs.drop off, c.oneCell' = true
  | [], off, xs, ht, _, hx, _ => by
    have h2 : xs = [] := List.eq_nil_of_length_eq_zero hx
    subst h2
    simp only [tilesB, beq_iff_eq] at ht
    subst ht
    simp [dvalsAll]
  | f :: fs, off, [], ht, _, hx, _ => by simp at hx
  | f :: fs, off, x :: xs, ht, hS, hx, h => by
    simp only [tilesB, Bool.and_eq_true, beq_iff_eq] at ht
    obtain ⟨rfl, ht⟩ := ht
    have h0 := h 0 f rfl
    obtain ⟨e1, o1⟩ := ih _ _ _ (hS f (by simp)) (by simpa using h0)
    obtain ⟨e2, o2⟩ := fields_flat ih fs _ xs ht (fun g hg => hS g (by simp [hg])) (by simpa using hx) (fun i g hg => by have := h (i + 1) g (by simpa using hg); simpa using this)
    have hd : cs.drop f.offset = (cs.drop f.offset).take (P.cellsOf f.type) ++ cs.drop (f.offset + P.cellsOf f.type) := by
      rw [← List.drop_drop, List.take_append_drop]
    refine ⟨?_, fun c hc => ?_⟩
    · simp only [List.map_cons, dvalsAll]
      rw [← e1, ← e2, ← hd]
    · rw [hd, List.mem_append] at hc
      exact hc.elim (o1 c) (o2 c)

/-- What a reading met, cell by cell. -/
theorem trod_flat {S : List TypeId} (hS : flatB P S = true) {w : World} {base : Nat} {spare : Nat → Bool} {held : Bool} : ∀ (fuel : Nat) (t : TypeId) (cs : List Value) (x : DataW H × List MemPlace), t ∈ S →
    DataW.trod enc P w base spare held fuel t cs = some x → cs = dvals x.1 ∧ ∀ c ∈ cs, c.oneCell' = true
  | 0, t, cs, x, _, h => by simp [DataW.trod] at h
  | fuel + 1, t, cs, x, ht, h => by
    have ih := fun t cs x => trod_flat hS (w := w) (base := base) (spare := spare) (held := held) fuel t cs x
    have hc := List.all_eq_true.1 hS t ht
    cases hu : P.underlying t with
    | none => rw [hu] at hc; cases hc
    | some d =>
      rw [hu] at hc
      cases d <;> simp only [reduceCtorEq] at hc
      case bool =>
        unfold DataW.trod at h
        rw [hu] at h
        split at h <;> simp_all [dvals, Value.oneCell']
        obtain ⟨rfl⟩ := h
        simp [dvals, Value.oneCell']
      case int k =>
        obtain ⟨n, rfl, rfl, _⟩ := DataW.trod_int hu h
        simp [dvals, Value.oneCell']
      case string =>
        unfold DataW.trod at h
        rw [hu] at h
        split at h <;> simp_all [dvals, Value.oneCell']
        obtain ⟨_, rfl⟩ := h
        simp [dvals, Value.oneCell']
      case array n e =>
        simp only [Bool.and_eq_true, List.contains_iff_mem, beq_iff_eq] at hc
        obtain ⟨xs, m, hm, rfl, hlen, hxl, hx⟩ := DataW.trod_array hu h
        cases hm
        have := array_flat (k := P.cellsOf e) (fun cs x hx => ih e cs x hc.1 hx) n cs xs (by rw [hlen, hc.2]) hxl hx
        simpa [dvals] using this
      case struct fs =>
        simp only [Bool.and_eq_true, List.all_eq_true, List.contains_iff_mem] at hc
        obtain ⟨xs, m, hm, rfl, hlen, hxl, hx⟩ := DataW.trod_struct hu h
        cases hm
        have := fields_flat ih fs.toList 0 xs (by rw [hlen]; exact hc.2) (fun f hf => hc.1 f hf) (by simpa using hxl) (fun i f hf => hx i f (by simpa using hf))
        simpa [dvals] using this

/-- One variable that is laid. -/
structure GlobAt (P : Program) (S : List TypeId) (n : String) (d : DataW Unit) (g : Nat) (cs : List AV) : Prop where
  name : P.globalNamed n = some g
  type : ∃ t, (P.globals[g]?).map (·.type) = some t ∧ t ∈ S
  cells : (dvals d).map AV.lit = cs

theorem glob_of_laid {S : List TypeId} (hS : flatB P S = true) {W : World} : ∀ (laid : List (String × DataW Unit)) (ps : List MemPlace), DataW.LaidVars P W laid ps → ∀ n d, (n, d) ∈ laid → ∀ g cs, GlobAt P S n d g cs →
    Rep (Env.start W) (.ip cs 0) (.pointer (some ⟨g, 0, none⟩))
  | [], _, _, n, d, hm, _, _, _ => by cases hm
  | (n0, d0) :: r, ps, h, n, d, hm, g, cs, hg => by
    obtain ⟨g', t, vs, fuel, p, q, h1, h2, h3, h4, h5, _⟩ := h
    rcases List.mem_cons.1 hm with he | hm
    · cases he
      obtain rfl : g' = g := Option.some.inj (h1.symm.trans hg.name)
      obtain ⟨t', ht, htS⟩ := hg.type
      obtain rfl : t = t' := Option.some.inj (h2.symm.trans ht)
      obtain ⟨e1, o1⟩ := trod_flat hS fuel t vs.toList _ htS h4
      have hcell : ∀ i : Nat, W.cell? ⟨g', i, none⟩ = vs[i]? := fun i => World.var?_cell h1 h3 i
      have hI : (Env.start W).I g' := by
        show g' < W.heap.size
        simp only [World.var?, h1, Option.bind_some] at h3
        split at h3
        · rename_i hh; exact (Array.getElem?_eq_some_iff.1 hh).1
        · cases h3
      have hm : MemAt (Env.start W) g' 0 cs := fun j c hj => by
        rw [← hg.cells, List.getElem?_map, Option.map_eq_some_iff] at hj
        obtain ⟨v, hv, rfl⟩ := hj
        have e1' : vs.toList = dvals d0 := e1
        rw [← e1'] at hv
        refine ⟨v, ?_, o1 v (List.mem_of_getElem? hv), .lit v⟩
        show W.cell? ⟨g', 0 + j, none⟩ = some v
        rw [Nat.zero_add, hcell j]
        simpa using hv
      exact rep_ip_intro (o := 0) hI hm
    · exact glob_of_laid hS r q h5 n d hm g cs hg

end
end Go.Fw
