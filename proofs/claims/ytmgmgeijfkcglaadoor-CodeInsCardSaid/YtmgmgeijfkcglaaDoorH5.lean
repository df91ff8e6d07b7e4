/- Framework, part 24: package-level variables that a row lays. -/
import Derived.Test.YtmgmgeijfkcglaaDoorH4
import Derived.ChangeArms
import Derived.OpenShut
import Derived.LaidMore
import GoSem.ClaimJoined
import Derived.FnData
namespace Go.Fw
open Go Go.RowKit Go.ChangeShapes
set_option linter.unusedSectionVars false
variable [Globals]

mutual
/-- The cells of a datum that is made of numbers, truths and texts. -/
def dvals {H : Type} : DataW H → List Value
  | .lit (.bool b) => [.bool b]
  | .lit (.int k n) => [.int k n]
  | .lit (.string l) => [.string ⟨⟨l⟩⟩]
  | .agg parts => dvalsAll parts
  | _ => []
def dvalsAll {H : Type} : List (DataW H) → List Value
  | [] => []
  | d :: r => dvals d ++ dvalsAll r
end

/-- Types that hold nothing but one another: numbers, truths, texts, structs, arrays. -/
def flatB (P : Program) (S : List TypeId) : Bool := S.all fun t => match P.underlying t with
  | some .bool => true
  | some (.int _) => true
  | some .string => true
  | some (.array n e) => S.contains e && (n * P.cellsOf e == P.cellsOf t)
  | some (.struct fs) => fs.toList.all (fun f => S.contains f.type) && tilesB P fs.toList 0 (P.cellsOf t)
  | _ => false

section
variable {P : Program} {H : Type} {enc : TypeId × Value → H}

theorem array_flat {w : World} {base : Nat} {spare : Nat → Bool} {held : Bool} {m k : Nat} {e : TypeId} (ih : ∀ (cs : List Value) (x : DataW H × List MemPlace), DataW.trod enc P w base spare held m e cs = some x → cs = dvals x.1 ∧ ∀ c ∈ cs, c.oneCell' = true) :
    ∀ (n : Nat) (cs : List Value) (xs : List (DataW H × List MemPlace)), cs.length = n * k → xs.length = n → (∀ i, i < n → DataW.trod enc P w base spare held m e ((cs.drop (i * k)).take k) = xs[i]?) →
      cs = dvalsAll (xs.map (·.1)) ∧ ∀ c ∈ cs, c.oneCell' = true
  | 0, cs, xs, hc, hx, _ => by
    have h1 : cs = [] := List.eq_nil_of_length_eq_zero (by simpa using hc)
    have h2 : xs = [] := List.eq_nil_of_length_eq_zero hx
    subst h1; subst h2
    exact ⟨by simp [dvalsAll], by simp⟩
  | n + 1, cs, [], hc, hx, _ => by simp at hx
  | n + 1, cs, x :: xs, hc, hx, h => by
    have h0 := h 0 (by omega)
    simp at h0
    obtain ⟨e1, o1⟩ := ih _ _ h0
    obtain ⟨e2, o2⟩ := array_flat (k := k) ih n (cs.drop k) xs (by simp [hc, Nat.add_mul]) (by simpa using hx) (fun i hi => by
      have := h (i + 1) (by omega)
      rw [List.drop_drop, show k + i * k = (i + 1) * k by rw [Nat.add_mul]; omega]
      simpa using this)
    refine ⟨?_, fun c hc' => ?_⟩
    · simp only [List.map_cons, dvalsAll]
      rw [← e1, ← e2, List.take_append_drop]
    · rw [← List.take_append_drop k cs, List.mem_append] at hc'
      exact hc'.elim (o1 c) (o2 c)

theorem fields_flat {S : List TypeId} {w : World} {base : Nat} {spare : Nat → Bool} {held : Bool} {m : Nat} (ih : ∀ (t : TypeId) (cs : List Value) (x : DataW H × List MemPlace), t ∈ S → DataW.trod enc P w base spare held m t cs = some x → cs = dvals x.1 ∧ ∀ c ∈ cs, c.oneCell' = true)
    {cs : List Value} : ∀ (fs : List Field) (off : Nat) (xs : List (DataW H × List MemPlace)), tilesB P fs off cs.length = true → (∀ f ∈ fs, f.type ∈ S) → xs.length = fs.length →
      (∀ (i : Nat) (f : Field), fs[i]? = some f → DataW.trod enc P w base spare held m f.type ((cs.drop f.offset).take (P.cellsOf f.type)) = xs[i]?) → cs.drop off = dvalsAll (xs.map (·.1)) ∧ ∀ c ∈ cs.drop off, c.oneCell' = true
  | [], off, xs, ht, _, hx, _ => by
    have h2 : xs = [] := List.eq_nil_of_length_eq_zero hx
    subst h2
    simp only [tilesB, beq_iff_eq] at ht
    subst ht
    simp [dvalsAll]
  | f :: fs, off, [], ht, _, hx, _ => by simp at hx
  | f :: fs, off, x :: xs, ht, hS, hx, h => by
    simp only [tilesB, Bool.and_eq_true, beq_iff_eq] at ht
    obtain ⟨rfl, ht⟩ := ht
    have h0 := h 0 f rfl
    obtain ⟨e1, o1⟩ := ih _ _ _ (hS f (by simp)) (by simpa using h0)
    obtain ⟨e2, o2⟩ := fields_flat ih fs _ xs ht (fun g hg => hS g (by simp [hg])) (by simpa using hx) (fun i g hg => by have := h (i + 1) g (by simpa using hg); simpa using this)
    have hd : cs.drop f.offset = (cs.drop f.offset).take (P.cellsOf f.type) ++ cs.drop (f.offset + P.cellsOf f.type) := by
      rw [← List.drop_drop, List.take_append_drop]
    refine ⟨?_, fun c hc => ?_⟩
    · simp only [List.map_cons, dvalsAll]
      rw [← e1, ← e2, ← hd]
    · rw [hd, List.mem_append] at hc
      exact hc.elim (o1 c) (o2 c)

/-- What a reading met, cell by cell. -/
theorem trod_flat {S : List TypeId} (hS : flatB P S = true) {w : World} {base : Nat} {spare : Nat → Bool} {held : Bool} : ∀ (fuel : Nat) (t : TypeId) (cs : List Value) (x : DataW H × List MemPlace), t ∈ S →
    DataW.trod enc P w base spare held fuel t cs = some x → cs = dvals x.1 ∧ ∀ c ∈ cs, c.oneCell' = true
  | 0, t, cs, x, _, h => by simp [DataW.trod] at h
  | fuel + 1, t, cs, x, ht, h => by
    have ih := fun t cs x => trod_flat hS (w := w) (base := base) (spare := spare) (held := held) fuel t cs x
    have hc := List.all_eq_true.1 hS t ht
    cases hu : P.underlying t with
    | none => rw [hu] at hc; cases hc
    | some d =>
      rw [hu] at hc
      cases d <;> simp only [reduceCtorEq] at hc
      case bool =>
        unfold DataW.trod at h
        rw [hu] at h
        split at h <;> simp_all [dvals, Value.oneCell']
        obtain ⟨rfl⟩ := h
        simp [dvals, Value.oneCell']
      case int k =>
        obtain ⟨n, rfl, rfl, _⟩ := DataW.trod_int hu h
        simp [dvals, Value.oneCell']
      case string =>
        unfold DataW.trod at h
        rw [hu] at h
        split at h <;> simp_all [dvals, Value.oneCell']
        obtain ⟨_, rfl⟩ := h
        simp [dvals, Value.oneCell']
      case array n e =>
        simp only [Bool.and_eq_true, List.contains_iff_mem, beq_iff_eq] at hc
        obtain ⟨xs, m, hm, rfl, hlen, hxl, hx⟩ := DataW.trod_array hu h
        cases hm
        have := array_flat (k := P.cellsOf e) (fun cs x hx => ih e cs x hc.1 hx) n cs xs (by rw [hlen, hc.2]) hxl hx
        simpa [dvals] using this
      case struct fs =>
        simp only [Bool.and_eq_true, List.all_eq_true, List.contains_iff_mem] at hc
        obtain ⟨xs, m, hm, rfl, hlen, hxl, hx⟩ := DataW.trod_struct hu h
        cases hm
        have := fields_flat ih fs.toList 0 xs (by rw [hlen]; exact hc.2) (fun f hf => hc.1 f hf) (by simpa using hxl) (fun i f hf => hx i f (by simpa using hf))
        simpa [dvals] using this

/-- One variable that is laid. -/
structure GlobAt (P : Program) (S : List TypeId) (n : String) (d : DataW Unit) (g : Nat) (cs : List AV) : Prop where
  name : P.globalNamed n = some g
  type : ∃ t, (P.globals[g]?).map (·.type) = some t ∧ t ∈ S
  cells : (dvals d).map AV.lit = cs

theorem glob_of_laid {S : List TypeId} (hS : flatB P S = true) {W : World} : ∀ (laid : List (String × DataW Unit)) (ps : List MemPlace), DataW.LaidVars P W laid ps → ∀ n d, (n, d) ∈ laid → ∀ g cs, GlobAt P S n d g cs →
    Rep (Env.start W) (.ip cs 0) (.pointer (some ⟨g, 0, none⟩))
  | [], _, _, n, d, hm, _, _, _ => by cases hm
  | (n0, d0) :: r, ps, h, n, d, hm, g, cs, hg => by
    obtain ⟨g', t, vs, fuel, p, q, h1, h2, h3, h4, h5, _⟩ := h
    rcases List.mem_cons.1 hm with he | hm
    · cases he
      obtain rfl : g' = g := Option.some.inj (h1.symm.trans hg.name)
      obtain ⟨t', ht, htS⟩ := hg.type
      obtain rfl : t = t' := Option.some.inj (h2.symm.trans ht)
      obtain ⟨e1, o1⟩ := trod_flat hS fuel t vs.toList _ htS h4
      have hcell : ∀ i : Nat, W.cell? ⟨g', i, none⟩ = vs[i]? := fun i => World.var?_cell h1 h3 i
      have hI : (Env.start W).I g' := by
        show g' < W.heap.size
        simp only [World.var?, h1, Option.bind_some] at h3
        split at h3
        · rename_i hh; exact (Array.getElem?_eq_some_iff.1 hh).1
        · cases h3
      have hm : MemAt (Env.start W) g' 0 cs := fun j c hj => by
        rw [← hg.cells, List.getElem?_map, Option.map_eq_some_iff] at hj
        obtain ⟨v, hv, rfl⟩ := hj
        have e1' : vs.toList = dvals d0 := e1
        rw [← e1'] at hv
        refine ⟨v, ?_, o1 v (List.mem_of_getElem? hv), .lit v⟩
        show W.cell? ⟨g', 0 + j, none⟩ = some v
        rw [Nat.zero_add, hcell j]
        simpa using hv
      exact rep_ip_intro (o := 0) hI hm
    · exact glob_of_laid hS r q h5 n d hm g cs hg

end
end Go.Fw
