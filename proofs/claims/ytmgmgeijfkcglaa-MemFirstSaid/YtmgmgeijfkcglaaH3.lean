/- Framework, part 21: what an argument reads as, as an abstract value. -/
import Derived.Test.YtmgmgeijfkcglaaH2
namespace Go.Fw
set_option linter.unusedSimpArgs false
set_option linter.unusedVariables false
open Go Go.RowKit
set_option linter.unusedSectionVars false
variable [Globals]

/-- Cells of a type that is made of numbers, truths, texts, slices and structs. -/
def Lays (P : Program) : Nat → TypeId → List AV → Prop
  | 0, _, _ => False
  | n + 1, t, as => match P.underlying t with
    | some .bool => ∃ b, as = [.lit (.bool b)]
    | some (.int k) => ∃ m, as = [.lit (.int k m)] ∧ (Lit.int k m).wf = true
    | some .string => ∃ s, as = [.lit (.string s)] ∧ s.size ≤ maxLen
    | some (.slice e) => ∃ kd es, as = [.sl kd (P.cellsOf e) es] ∧ (kd = .nil ∧ es = [] ∨ kd = .any) ∧ es.length ≤ maxLen ∧ ∀ x ∈ es, Lays P n e x
    | some (.struct fs) => ∃ parts : List (List AV), as = parts.flatten ∧ parts.length = fs.size ∧ ∀ (i : Nat) (f : Field) (p : List AV), fs[i]? = some f → parts[i]? = some p → Lays P n f.type p
    | _ => False

/-- Do the fields lie side by side from here? -/
def tilesB (P : Program) : List Field → Nat → Nat → Bool
  | [], off, total => off == total
  | f :: fs, off, total => f.offset == off && tilesB P fs (off + P.cellsOf f.type) total

/-- Types that hold nothing but one another. -/
def closedB (P : Program) (S : List TypeId) : Bool := S.all fun t => match P.underlying t with
  | some .bool => true
  | some (.int _) => true
  | some .string => true
  | some (.slice e) => S.contains e && decide (0 < P.cellsOf e)
  | some (.struct fs) => fs.toList.all (fun f => S.contains f.type) && tilesB P fs.toList 0 (P.cellsOf t)
  | _ => false

section
variable {P : Program} {H : Type} {enc : TypeId × Value → H}

theorem choose_list {α : Type} {Q : Nat → α → Prop} : ∀ (n : Nat), (∀ i, i < n → ∃ x, Q i x) → ∃ l : List α, l.length = n ∧ ∀ (i : Nat) (x : α), l[i]? = some x → Q i x
  | 0, _ => ⟨[], rfl, fun i x h => by simp at h⟩
  | n + 1, h => by
    obtain ⟨l, h1, h2⟩ := choose_list n (fun i hi => h i (by omega))
    obtain ⟨x, hx⟩ := h n (by omega)
    refine ⟨l ++ [x], by simp [h1], fun i y hy => ?_⟩
    by_cases hi : i < l.length
    · rw [List.getElem?_append_left hi] at hy; exact h2 i y hy
    · have : i < (l ++ [x]).length := (List.getElem?_eq_some_iff.1 hy).1
      simp at this
      obtain rfl : i = l.length := by omega
      simp at hy
      subst hy
      rw [h1]; exact hx

theorem mapM_range {α : Type} {f : Nat → Option α} {n : Nat} {r : List α} (h : (List.range n).mapM f = some r) : ∀ i, i < n → ∃ y, f i = some y ∧ r[i]? = some y := fun i hi => by
  obtain ⟨h1, h2⟩ := mapM_get h
  have hl : i < r.length := by rw [h1]; simpa using hi
  have := h2 i i r[i] (by simp [hi]) (by simp [hl])
  exact ⟨r[i], this, by simp [hl]⟩

theorem cells?_spec {w : World} {base : Nat} {a : Addr} {n : Nat} {us : List Value} (h : w.cells? base a n = some us) : us.length = n ∧ ∀ (i : Nat) (u : Value), us[i]? = some u → w.cell? (a.add i) = some u := by
  unfold World.cells? at h
  split at h
  · obtain ⟨h1, h2⟩ := mapM_get h
    refine ⟨by simpa using h1, fun i u hu => ?_⟩
    have hi : i < n := by have := (List.getElem?_eq_some_iff.1 hu).1; simp at h1; omega
    exact h2 i i u (by simp [hi]) hu
  · cases h

theorem lt_of_cell {w : World} {a : Addr} {v : Value} (h : w.cell? a = some v) : a.block < w.heap.size ∧ a.spot = none := by
  unfold World.cell? at h
  split at h
  · rename_i hg
    refine ⟨lt_of_heap hg, ?_⟩
    split at h
    · cases h
    · rename_i hs; simpa using hs
  · cases h

theorem add_eq {a : Addr} (h : a.spot = none) (n : Nat) : a.add n = ⟨a.block, a.off + n, none⟩ := by
  obtain ⟨b, o, s⟩ := a
  simp only at h
  subst h
  exact addr_add b o n

theorem fields_rep {S : List TypeId} {w : World} {fuel : Nat} {cs : List Value} (ih : ∀ (t : TypeId) (cs : List Value) (x : DataW H × List MemPlace), t ∈ S →
      DataW.trod enc P w 0 (fun _ => true) true fuel t cs = some x → ∃ as, RelC (Env.start w) as cs ∧ Lays P fuel t as) : ∀ (fs : List Field) (off : Nat) (xs : List (DataW H × List MemPlace)),
    tilesB P fs off cs.length = true → (∀ f ∈ fs, f.type ∈ S) → fs.mapM (fun f => DataW.trod enc P w 0 (fun _ => true) true fuel f.type ((cs.drop f.offset).take (P.cellsOf f.type))) = some xs →
    ∃ parts : List (List AV), parts.length = fs.length ∧ RelC (Env.start w) parts.flatten (cs.drop off) ∧ ∀ (i : Nat) (f : Field) (p : List AV), fs[i]? = some f → parts[i]? = some p → Lays P fuel f.type p
  | [], off, xs, ht, _, _ => by
    simp only [tilesB, beq_iff_eq] at ht
    subst ht
    exact ⟨[], rfl, ⟨by simp, fun i a u ha => by simp at ha⟩, fun i f p hf => by simp at hf⟩
  | f :: fs, off, xs, ht, hS, h => by
    simp only [tilesB, Bool.and_eq_true, beq_iff_eq] at ht
    obtain ⟨rfl, ht⟩ := ht
    simp only [List.mapM_cons, Option.bind_eq_bind, Option.pure_def, Option.bind_eq_some_iff, Option.some.injEq] at h
    obtain ⟨y, hy, r, hr, rfl⟩ := h
    obtain ⟨as, h1, h2⟩ := ih _ _ _ (hS f (by simp)) hy
    obtain ⟨parts, h3, h4, h5⟩ := fields_rep ih fs _ r ht (fun g hg => hS g (by simp [hg])) hr
    refine ⟨as :: parts, by simp [h3], ?_, fun i g p hg hp => ?_⟩
    · have hd : cs.drop f.offset = (cs.drop f.offset).take (P.cellsOf f.type) ++ cs.drop (f.offset + P.cellsOf f.type) := by
        rw [← List.drop_drop, List.take_append_drop]
      rw [hd, List.flatten_cons]
      exact h1.append h4
    · cases i with
      | zero => simp at hg hp; subst hg; subst hp; exact h2
      | succ i => exact h5 i g p (by simpa using hg) (by simpa using hp)

/-- What a reading met, as abstract cells. -/
theorem trod_rep {S : List TypeId} (hS : closedB P S = true) {w : World} : ∀ (fuel : Nat) (t : TypeId) (cs : List Value) (x : DataW H × List MemPlace), t ∈ S →
    DataW.trod enc P w 0 (fun _ => true) true fuel t cs = some x → ∃ as, RelC (Env.start w) as cs ∧ Lays P fuel t as
  | 0, t, cs, x, _, h => by simp [DataW.trod] at h
  | fuel + 1, t, cs, x, ht, h => by
    have ih := trod_rep hS (w := w) fuel
    have one : ∀ (a : AV) (v : Value), v.oneCell' = true → Rep (Env.start w) a v → RelC (Env.start w) [a] [v] := fun a v h1 h2 =>
      ⟨rfl, fun i b u hb hu => by
        cases i with
        | zero => simp at hb hu; subst hb; subst hu; exact ⟨h1, h2⟩
        | succ i => simp at hb⟩
    have hc := List.all_eq_true.1 hS t ht
    unfold DataW.trod at h
    cases hu : P.underlying t with
    | none => rw [hu] at hc; cases hc
    | some d =>
      rw [hu] at hc h
      cases d <;> simp only [reduceCtorEq] at hc
      case bool =>
        split at h
        case h_1 => exact ⟨_, one (.lit (.bool _)) _ rfl (.lit _), by simp only [Lays, hu]; exact ⟨_, rfl⟩⟩
        all_goals first | (rename_i he _; cases he; done) | (rename_i he _ _; cases he; done) | (cases h; done) | (simp_all; done)
      case int k =>
        split at h
        case h_2 k1 k2 n he =>
          cases he
          split at h
          · rename_i hk
            obtain ⟨rfl, hw⟩ := hk
            exact ⟨_, one (.lit (.int _ n)) _ rfl (.lit _), by simp only [Lays, hu]; exact ⟨n, rfl, hw⟩⟩
          · cases h
        all_goals first | (rename_i he _; cases he; done) | (rename_i he _ _; cases he; done) | (cases h; done) | (simp_all; done)
      case string =>
        split at h
        case h_4 s he =>
          split at h
          · rename_i hk
            exact ⟨_, one (.lit (.string s)) _ rfl (.lit _), by simp only [Lays, hu]; exact ⟨s, rfl, hk⟩⟩
          · cases h
        all_goals first | (rename_i he _; cases he; done) | (rename_i he _ _; cases he; done) | (cases h; done) | (simp_all; done)
      case slice e =>
        simp only [Bool.and_eq_true, List.contains_iff_mem, decide_eq_true_eq] at hc
        obtain ⟨he, hpos⟩ := hc
        split at h
        case h_7 e' he' =>
          exact ⟨[.sl .nil (P.cellsOf e) []], one _ _ rfl (.slNil _), by simp only [Lays, hu]; exact ⟨.nil, [], rfl, .inl ⟨rfl, rfl⟩, by simp, by simp⟩⟩
        case h_8 e' a len cap he' =>
          cases he'
          simp only at h
          split at h
          · rename_i hcond
            obtain ⟨_, hlc, hcm⟩ := hcond
            obtain ⟨elems, hel, h⟩ := Option.bind_eq_some_iff.1 h
            simp only [if_true, Option.map_eq_some_iff] at h
            obtain ⟨rest, hrest, _⟩ := h
            have hA := mapM_range hel
            have hB := mapM_range hrest
            -- the elements
            obtain ⟨es, hesl, hes⟩ := choose_list (Q := fun i as => ∃ us, w.cells? 0 (a.add (i * P.cellsOf e)) (P.cellsOf e) = some us ∧ RelC (Env.start w) as us ∧ Lays P fuel e as) len (fun i hi => by
              obtain ⟨y, hy, _⟩ := hA i hi
              obtain ⟨us, h1, h2⟩ := Option.bind_eq_some_iff.1 hy
              obtain ⟨as, h3, h4⟩ := ih e us y he h2
              exact ⟨as, us, h1, h3, h4⟩)
            have hspot : 0 < cap → a.spot = none ∧ a.block < w.heap.size := fun h0 => by
              have : ∃ us, w.cells? 0 (a.add (0 * P.cellsOf e)) (P.cellsOf e) = some us := by
                by_cases hl : 0 < len
                · obtain ⟨y, hy, _⟩ := hA 0 hl
                  obtain ⟨us, h1, _⟩ := Option.bind_eq_some_iff.1 hy
                  exact ⟨us, h1⟩
                · obtain ⟨y, hy, _⟩ := hB 0 (by omega)
                  obtain ⟨us, h1, _⟩ := Option.bind_eq_some_iff.1 hy
                  exact ⟨us, by rw [show len + 0 = 0 by omega] at h1; exact h1⟩
              obtain ⟨us, h1⟩ := this
              obtain ⟨h2, h3⟩ := cells?_spec h1
              have h4 := h3 0 (us[0]'(by omega)) (by simp)
              rw [show a.add (0 * P.cellsOf e) = a by simp [Addr.add], show a.add 0 = a by simp [Addr.add]] at h4
              have := lt_of_cell h4
              exact ⟨this.2, this.1⟩
            have hlay : Lays P (fuel + 1) t [.sl .any (P.cellsOf e) es] := by
              simp only [Lays, hu]
              refine ⟨.any, es, rfl, .inr rfl, by omega, fun x hx => ?_⟩
              obtain ⟨i, hi, rfl⟩ := List.getElem_of_mem hx
              obtain ⟨us, _, _, h4⟩ := hes i es[i] (by simp [hi])
              exact h4
            refine ⟨[.sl .any (P.cellsOf e) es], one _ _ rfl ?_, hlay⟩
            by_cases h0 : cap = 0
            · have hl0 : len = 0 := by omega
              have : es = [] := List.eq_nil_of_length_eq_zero (by omega)
              subst this; subst h0; subst hl0
              exact .slE (by simp)
            · obtain ⟨hsp, hblk⟩ := hspot (by omega)
              obtain ⟨b, o, s⟩ := a
              simp only at hsp hblk
              subst hsp
              have hrep := rep_sl_intro (e := Env.start w) (k := .any) (sz := P.cellsOf e) (es := es) (b := b) (o := o) (cap := cap) (by simp) (fun _ => hblk) (by omega) (by simp)
                (fun x hx => by
                  obtain ⟨i, hi, rfl⟩ := List.getElem_of_mem hx
                  obtain ⟨us, h1, h2, _⟩ := hes i es[i] (by simp [hi])
                  rw [← h2.1, (cells?_spec h1).1])
                (fun i x hx j c hj => by
                  obtain ⟨us, h1, h2, _⟩ := hes i x hx
                  have hjl : j < us.length := by have := (List.getElem?_eq_some_iff.1 hj).1; rw [h2.1]; exact this
                  obtain ⟨h3, h4⟩ := h2.2 j c us[j] hj (by simp [hjl])
                  have h5 := (cells?_spec h1).2 j us[j] (by simp [hjl])
                  rw [addr_add, addr_add] at h5
                  exact ⟨us[j], h5, h3, h4⟩)
              rw [hesl] at hrep
              exact hrep
          · cases h
        all_goals first | (rename_i he _; cases he; done) | (rename_i he _ _; cases he; done) | (cases h; done) | (simp_all; done)
      case struct fs =>
        simp only [Bool.and_eq_true, List.all_eq_true, List.contains_iff_mem] at hc
        obtain ⟨hin, htile⟩ := hc
        split at h
        case h_9 fs' cs' he' =>
          cases he'
          split at h
          · rename_i hlen
            simp only [Option.map_eq_some_iff] at h
            obtain ⟨xs, hxs, _⟩ := h
            rw [← hlen] at htile
            obtain ⟨parts, h1, h2, h3⟩ := fields_rep ih fs.toList 0 xs htile (fun f hf => hin f hf) hxs
            refine ⟨parts.flatten, by simpa using h2, ?_⟩
            simp only [Lays, hu]
            exact ⟨parts, rfl, by simpa using h1, fun i f p hf hp => h3 i f p (by simpa using hf) hp⟩
          · cases h
        all_goals first | (rename_i he _; cases he; done) | (rename_i he _ _; cases he; done) | (cases h; done) | (simp_all; done)

/-- What an argument reads as. -/
theorem arg_rep {S : List TypeId} (hS : closedB P S = true) {w : World} {t : TypeId} {v : Value} {d : DataW H} {ps : List MemPlace} (ht : t ∈ S)
    (h : DataW.Trod enc P w 0 (fun _ => true) true t v d ps) : ∃ as n, RelC (Env.start w) as v.cells.toList ∧ Lays P n t as := by
  obtain ⟨fuel, h⟩ := h
  obtain ⟨as, h1, h2⟩ := trod_rep hS fuel t _ _ ht h
  exact ⟨as, fuel, h1, h2⟩

end
end Go.Fw
