/- Framework, part 17: a smaller heap serves; answers that nobody writes any more. -/
import Derived.Test.YtmgmgeijfkcglaaG7
namespace Go.Fw
set_option linter.unusedSimpArgs false
set_option linter.unusedVariables false
open Go
set_option linter.unusedSectionVars false
variable [Globals]

def AHeap.or (H F : AHeap) : AHeap := fun id => match H id with
  | some o => some o
  | none => F id

theorem noHeap_or (F : AHeap) : noHeap.or F = F := by funext id; rfl
theorem set_or (H F : AHeap) (id : Nat) (o : AObj) : (H.set id o).or F = (H.or F).set id o := by
  funext i
  simp only [AHeap.or, AHeap.set]
  by_cases h : i = id
  · simp [h]
  · simp [h]

section
variable {P : Program}

/-- What a call on a part of the heap does to the whole. -/
theorem frame_post {e : Env} {H F : AHeap} (hdis : ∀ id o, H id = some o → F id = none) (hH : HRep e (H.or F)) : HRep e H ∧
    ∀ e' H1, HRep e' H1 → Tr e H e' H1 → Keeps F (H1.or F) ∧ HRep e' (H1.or F) ∧ Tr e (H.or F) e' (H1.or F) := by
  have sub : ∀ id o, H id = some o → (H.or F) id = some o := fun id o ho => by simp [AHeap.or, ho]
  have subF : ∀ id o, F id = some o → (H.or F) id = some o := fun id o ho => by
    cases hx : H id with
    | none => simp [AHeap.or, hx, ho]
    | some o' => rw [hdis id o' hx] at ho; cases ho
  have hH0 : HRep e H := ⟨fun id o ho => hH.at_ id o (sub id o ho), fun i j o o' hi hj hij => hH.inj i j o o' (sub i o hi) (sub j o' hj) hij, hH.imm, hH.gl⟩
  refine ⟨hH0, fun e' H1 hH1 htr => ?_⟩
  have own0 : ∀ b, Own e H b → Own e (H.or F) b := fun b ⟨id, o, h1, h2⟩ => ⟨id, o, sub id o h1, h2⟩
  -- the frame's blocks
  have hF : ∀ id o, F id = some o → id < e.N ∧ ¬ Own e H (e.ρ id).1 ∧ (e.ρ id).1 < e.w.heap.size := fun id o ho => by
    obtain ⟨h1, h2, h3⟩ := hH.at_ id o (subF id o ho)
    refine ⟨h1, fun ⟨j, oj, hj, hjb⟩ => ?_, h3.lt⟩
    have := hH.inj j id oj o (sub j oj hj) (subF id o ho) hjb
    subst this
    rw [hdis j oj hj] at ho
    cases ho
  have hFn : ∀ id o, F id = some o → ¬ Own e' H1 (e'.ρ id).1 := fun id o ho hown => by
    obtain ⟨h1, h2, h3⟩ := hF id o ho
    rw [htr.ext.ρ id h1] at hown
    rcases htr.own _ hown with h4 | h4
    · exact h2 h4
    · omega
  have cases_or : ∀ id o, (H1.or F) id = some o → H1 id = some o ∨ (H1 id = none ∧ F id = some o) := fun id o ho => by
    simp only [AHeap.or] at ho
    cases hx : H1 id with
    | none => rw [hx] at ho; exact .inr ⟨rfl, ho⟩
    | some o' => rw [hx] at ho; exact .inl ho
  have hHF : HRep e' (H1.or F) := by
    refine ⟨fun id o ho => ?_, fun i j o o' hi hj hij => ?_, hH1.imm, hH1.gl⟩
    · rcases cases_or id o ho with h1 | ⟨_, h1⟩
      · exact hH1.at_ id o h1
      · obtain ⟨h2, h3, h4⟩ := hF id o h1
        obtain ⟨_, h6, h7⟩ := hH.at_ id o (subF id o h1)
        rw [htr.ext.ρ id h2]
        refine ⟨Nat.lt_of_lt_of_le h2 htr.ext.N, fun hI => ?_, h7.ext htr.ext (htr.fr _ h4 h3)⟩
        rcases htr.im _ hI with h8 | h8 | h8
        · exact h6 h8
        · exact h3 h8
        · omega
    · rcases cases_or i o hi with h1 | ⟨_, h1⟩ <;> rcases cases_or j o' hj with h2 | ⟨_, h2⟩
      · exact hH1.inj i j o o' h1 h2 hij
      · exact absurd ⟨i, o, h1, hij⟩ (hFn j o' h2)
      · exact absurd ⟨j, o', h2, hij.symm⟩ (hFn i o h1)
      · obtain ⟨h3, _, _⟩ := hF i o h1
        obtain ⟨h4, _, _⟩ := hF j o' h2
        rw [htr.ext.ρ i h3, htr.ext.ρ j h4] at hij
        exact hH.inj i j o o' (subF i o h1) (subF j o' h2) hij
  have hkeep : Keeps F (H1.or F) := fun id o ho => by
    cases hx : H1 id with
    | none => simp [AHeap.or, hx, ho]
    | some o' => exact absurd ⟨id, o', hx, rfl⟩ (hFn id o ho)
  refine ⟨hkeep, hHF, htr.ext, fun b hb hn => htr.fr b hb (fun ho => hn (own0 b ho)), fun b ⟨id, o, h1, h2⟩ => ?_, fun b hb => ?_, htr.size, htr.os, htr.tape, htr.output⟩
  · rcases cases_or id o h1 with h3 | ⟨_, h3⟩
    · exact (htr.own b ⟨id, o, h3, h2⟩).imp (own0 b) (fun h => h)
    · refine .inl ⟨id, o, subF id o h3, ?_⟩
      rw [← htr.ext.ρ id (hF id o h3).1]
      exact h2
  · rcases htr.im b hb with h1 | h1 | h1
    · exact .inl h1
    · exact .inr (.inl (own0 b h1))
    · exact .inr (.inr h1)

theorem ACall.frame {f : FuncId} {args : List AV} {H : AHeap} {N : Nat} {Q : AV → AHeap → Nat → Prop} (h : ACall P f args H N Q) (F : AHeap) (hdis : ∀ id o, H id = some o → F id = none) :
    ACall P f args (H.or F) N (fun r H' N' => ∃ H1, H' = H1.or F ∧ Keeps F (H1.or F) ∧ Q r H1 N') := by
  refine ⟨h.1, fun e vs hH hN hl hr => ?_⟩
  obtain ⟨hH0, hpost⟩ := frame_post hdis hH
  refine (h.2 e vs hH0 hN hl hr).mono ?_
  rintro x w' ⟨v, e', r, H1, rfl, rfl, hq, hrep, hH1, htr⟩
  obtain ⟨k1, k2, k3⟩ := hpost e' H1 hH1 htr
  exact ⟨v, e', r, H1.or F, rfl, rfl, ⟨H1, rfl, k1, hq⟩, hrep, k2, k3⟩

theorem YCall.frame {id : Nat} {args : List AV} {H : AHeap} {N : Nat} {Q : AV → AHeap → Nat → Prop} (h : YCall P id args H N Q) (F : AHeap) (hdis : ∀ id o, H id = some o → F id = none) :
    YCall P id args (H.or F) N (fun r H' N' => ∃ H1, H' = H1.or F ∧ Keeps F (H1.or F) ∧ Q r H1 N') := by
  intro e vs hH hN hl hr
  obtain ⟨hH0, hpost⟩ := frame_post hdis hH
  obtain ⟨f, tmps, asg, body, h1, h2⟩ := h e vs hH0 hN hl hr
  refine ⟨f, tmps, asg, body, h1, h2.mono ?_⟩
  rintro x w' ⟨v, e', r, H1, rfl, rfl, hq, hrep, hH1, htr⟩
  obtain ⟨k1, k2, k3⟩ := hpost e' H1 hH1 htr
  exact ⟨v, e', r, H1.or F, rfl, rfl, ⟨H1, rfl, k1, hq⟩, hrep, k2, k3⟩

/-- Objects may be given up. -/
theorem hrep_sub {e : Env} {H H' : AHeap} (h : HRep e H) (hs : ∀ id o, H' id = some o → H id = some o) : HRep e H' :=
  ⟨fun id o ho => h.at_ id o (hs id o ho), fun i j o o' hi hj hij => h.inj i j o o' (hs i o hi) (hs j o' hj) hij, h.imm, h.gl⟩
theorem tr_sub {e e' : Env} {H H1 H2 : AHeap} (h : Tr e H e' H1) (hs : ∀ id o, H2 id = some o → H1 id = some o) : Tr e H e' H2 :=
  ⟨h.ext, h.fr, fun b ⟨id, o, h1, h2⟩ => h.own b ⟨id, o, hs id o h1, h2⟩, h.im, h.size, h.os, h.tape, h.output⟩

theorem ACall.drop {f : FuncId} {args : List AV} {H : AHeap} {N : Nat} {Q : AV → AHeap → Nat → Prop} (h : ACall P f args H N (fun r H' N' => ∃ H1, (∀ id o, H1 id = some o → H' id = some o) ∧ Q r H1 N')) : ACall P f args H N Q :=
  ⟨h.1, fun e vs h1 h2 h3 h4 => (h.2 e vs h1 h2 h3 h4).mono fun _ _ ⟨v, e', r, H', a, b, ⟨H1, c1, c2⟩, d, x, y⟩ => ⟨v, e', r, H1, a, b, c2, d, hrep_sub x c1, tr_sub y c1⟩⟩

theorem YCall.fresh {id : Nat} {args : List AV} {H : AHeap} {N : Nat} {Q : AV → AHeap → Nat → Prop} (h : (∀ j, N ≤ j → H j = none) → YCall P id args H N Q) : YCall P id args H N Q :=
  fun e vs h1 h2 h3 h4 => h (fun j hj => by
    cases ho : H j with
    | none => rfl
    | some o => have := (h1.at_ j o ho).1; omega) e vs h1 h2 h3 h4

/-- What holds behind a call also knows that the numbers that are given are less, and no fewer. -/
theorem YCall.monoF {id : Nat} {args : List AV} {H : AHeap} {N : Nat} {Q Q' : AV → AHeap → Nat → Prop} (h : YCall P id args H N Q) (hq : ∀ r H' N', Q r H' N' → (∀ j, N' ≤ j → H' j = none) → N ≤ N' → Q' r H' N') : YCall P id args H N Q' :=
  fun e vs h1 h2 h3 h4 => by
    obtain ⟨f, tmps, asg, body, k1, k2⟩ := h e vs h1 h2 h3 h4
    refine ⟨f, tmps, asg, body, k1, k2.mono ?_⟩
    rintro x w' ⟨v, e', r, H', hx, hw, hQ, hrep, hH', ht⟩
    refine ⟨v, e', r, H', hx, hw, hq _ _ _ hQ (fun j hj => ?_) (by rw [← h2]; exact ht.ext.N), hrep, hH', ht⟩
    cases ho : H' j with
    | none => rfl
    | some o => have := (hH'.at_ j o ho).1; omega

/-- A call that needs nothing of the heap. -/
theorem ACall.lift {f : FuncId} {args : List AV} {N : Nat} {Q : AV → AHeap → Nat → Prop} (h : ACall P f args noHeap N Q) (F : AHeap) {Q' : AV → AHeap → Nat → Prop}
    (hq : ∀ r H1 N', Q r H1 N' → Keeps F (H1.or F) → Q' r (H1.or F) N') : ACall P f args F N Q' := by
  have h1 := h.frame F (fun id o ho => by cases ho)
  rw [noHeap_or] at h1
  exact h1.mono fun r H' N' ⟨H1, he, hk, hq1⟩ => by subst he; exact hq r H1 N' hq1 hk

mutual
/-- Does a value tell of no number of the abstract heap? -/
def AV.free : AV → Bool
  | .lit _ => true
  | .agg cs => freeL cs
  | .tup cs => freeL cs
  | .sl _ _ es => freeLL es
  | .ip cs _ => freeL cs
  | .mp _ _ => false
  | .ms _ _ _ _ => false
  | .mm _ => false
  | .fn _ a b => freeL a && freeL b
  | .ifc _ a => AV.free a
  | .yl _ => false
  | .junk => true
def freeL : List AV → Bool
  | [] => true
  | a :: r => AV.free a && freeL r
def freeLL : List (List AV) → Bool
  | [] => true
  | a :: r => freeL a && freeLL r
end

theorem freeL_get {cs : List AV} (h : freeL cs = true) {i : Nat} {c : AV} (hc : cs[i]? = some c) : c.free = true := by
  induction cs generalizing i with
  | nil => simp at hc
  | cons a r ih =>
    simp only [freeL, Bool.and_eq_true] at h
    cases i with
    | zero => simp at hc; subst hc; exact h.1
    | succ i => exact ih h.2 (by simpa using hc)

theorem freeLL_get {es : List (List AV)} (h : freeLL es = true) {i : Nat} {x : List AV} (hc : es[i]? = some x) : freeL x = true := by
  induction es generalizing i with
  | nil => simp at hc
  | cons a r ih =>
    simp only [freeLL, Bool.and_eq_true] at h
    cases i with
    | zero => simp at hc; subst hc; exact h.1
    | succ i => exact ih h.2 (by simpa using hc)

theorem freeLL_map {α : Type} (f : α → List AV) (l : List α) (h : ∀ x ∈ l, freeL (f x) = true) : freeLL (l.map f) = true := by
  induction l with
  | nil => rfl
  | cons a r ih => simp only [List.map_cons, freeLL, Bool.and_eq_true]; exact ⟨h a (by simp), ih fun x hx => h x (by simp [hx])⟩

theorem freeL_map {α : Type} (f : α → AV) (l : List α) (h : ∀ x ∈ l, (f x).free = true) : freeL (l.map f) = true := by
  induction l with
  | nil => rfl
  | cons a r ih => simp only [List.map_cons, freeL, Bool.and_eq_true]; exact ⟨h a (by simp), ih fun x hx => h x (by simp [hx])⟩

/-- What a world says of a value that tells of no number, whatever the numbers are. -/
theorem Rep.free {e : Env} {a : AV} {v : Value} (h : Rep e a v) : a.free = true → ∀ (I : Nat → Prop), (∀ b, e.I b → I b) → ∀ ρ N, Rep { w := e.w, I := I, ρ := ρ, N := N } a v := by
  induction h with
  | lit v => intro _ I _ ρ N; exact .lit v
  | agg hl h1 _ ih => intro hf I hI ρ N; simp only [AV.free] at hf; exact .agg hl h1 fun i c v hc hv => ih i c v hc hv (freeL_get hf hc) I hI ρ N
  | tup hl _ ih => intro hf I hI ρ N; simp only [AV.free] at hf; exact .tup hl fun i c v hc hv => ih i c v hc hv (freeL_get hf hc) I hI ρ N
  | slNil sz => intro _ I _ ρ N; exact .slNil sz
  | slE hk => intro _ I _ ρ N; exact .slE hk
  | sl u hk hIb hcap hex hsz hc h1 _ ih =>
    intro hf I hI ρ N
    simp only [AV.free] at hf
    exact .sl u hk (fun h => hI _ (hIb h)) hcap hex hsz hc h1 fun i j x c hx hj => ih i j x c hx hj (freeL_get (freeLL_get hf hx) hj) I hI ρ N
  | ip u hIb hc h1 _ ih =>
    intro hf I hI ρ N
    simp only [AV.free] at hf
    exact .ip u (hI _ hIb) hc h1 fun j c hj => ih j c hj (freeL_get hf hj) I hI ρ N
  | mp _ => intro hf; simp [AV.free] at hf
  | ms _ _ _ _ => intro hf; simp [AV.free] at hf
  | mm _ => intro hf; simp [AV.free] at hf
  | fn hf hc _ _ i1 i2 =>
    intro hfr I hI ρ N
    simp only [AV.free, Bool.and_eq_true] at hfr
    exact .fn hf hc (fun i c v h1 h2 => i1 i c v h1 h2 (freeL_get hfr.1 h1) I hI ρ N) (fun i c v h1 h2 => i2 i c v h1 h2 (freeL_get hfr.2 h1) I hI ρ N)
  | ifc _ ih => intro hf I hI ρ N; simp only [AV.free] at hf; exact .ifc (ih hf I hI ρ N)
  | yl _ => intro hf; simp [AV.free] at hf
  | junk v => intro _ I _ ρ N; exact .junk v

/-- The ghost side when all the objects are left to be. -/
def Env.still (e : Env) (H : AHeap) (ρ : Nat → Nat × Nat) (N : Nat) : Env := { w := e.w, I := fun b => e.I b ∨ Own e H b, ρ := ρ, N := N }

/-- The second value tells, without the heap, what the first tells with it. -/
inductive View (H : AHeap) : AV → AV → Prop where
  | free {a : AV} (h : a.free = true) : View H a a
  | agg {cs ds : List AV} (hl : cs.length = ds.length) (h : ∀ (i : Nat) (c d : AV), cs[i]? = some c → ds[i]? = some d → View H c d) : View H (.agg cs) (.agg ds)
  | tup {cs ds : List AV} (hl : cs.length = ds.length) (h : ∀ (i : Nat) (c d : AV), cs[i]? = some c → ds[i]? = some d → View H c d) : View H (.tup cs) (.tup ds)
  | sl {k : SK} {sz : Nat} {es fs : List (List AV)} (hl : es.length = fs.length) (hl2 : ∀ (i : Nat) (x y : List AV), es[i]? = some x → fs[i]? = some y → x.length = y.length)
      (h : ∀ (i j : Nat) (x y : List AV) (c d : AV), es[i]? = some x → fs[i]? = some y → x[j]? = some c → y[j]? = some d → View H c d) : View H (.sl k sz es) (.sl k sz fs)
  | ms {id off len sz : Nat} {cs ds : List AV} (hid : H id = some (.blk cs)) (hle : off + len * sz ≤ cs.length) (hl : cs.length = ds.length)
      (h : ∀ (i : Nat) (c d : AV), cs[i]? = some c → ds[i]? = some d → View H c d) : View H (.ms id off len sz) (.sl .any sz (chunks sz len (ds.drop off)))
  | mp {id off : Nat} {cs ds : List AV} (hid : H id = some (.blk cs)) (hl : cs.length = ds.length)
      (h : ∀ (i : Nat) (c d : AV), cs[i]? = some c → ds[i]? = some d → View H c d) : View H (.mp id off) (.ip ds off)
  | ifc {t : TypeId} {a b : AV} (h : View H a b) : View H (.ifc t a) (.ifc t b)
  | ip {cs ds : List AV} {off : Nat} (hl : cs.length = ds.length) (h : ∀ (i : Nat) (c d : AV), cs[i]? = some c → ds[i]? = some d → View H c d) : View H (.ip cs off) (.ip ds off)
  | fn {f : Fn} {a b c d : List AV} (hl : a.length = c.length) (h : ∀ (i : Nat) (x y : AV), a[i]? = some x → c[i]? = some y → View H x y)
      (hl2 : b.length = d.length) (h2 : ∀ (i : Nat) (x y : AV), b[i]? = some x → d[i]? = some y → View H x y) : View H (.fn f a b) (.fn f c d)

theorem get_of_len {α β : Type} {l : List α} {r : List β} (h : l.length = r.length) {i : Nat} {y : β} (hy : r[i]? = some y) : ∃ x, l[i]? = some x := by
  have : i < r.length := (List.getElem?_eq_some_iff.1 hy).1
  exact ⟨l[i]'(by omega), by simp [show i < l.length by omega]⟩

theorem View.rep {e : Env} {H : AHeap} (hH : HRep e H) {a b : AV} (h : View H a b) : ∀ {v : Value}, Rep e a v → ∀ ρ N, Rep (e.still H ρ N) b v := by
  -- the cells of an object
  have obj : ∀ {id : Nat} {cs ds : List AV}, H id = some (.blk cs) → cs.length = ds.length →
      (∀ (i : Nat) (c d : AV), cs[i]? = some c → ds[i]? = some d → ∀ {v : Value}, Rep e c v → ∀ ρ N, Rep (e.still H ρ N) d v) → ∀ ρ N, MemAt (e.still H ρ N) (e.ρ id).1 (e.ρ id).2 ds := by
    intro id cs ds hid hl ih ρ N j d hj
    obtain ⟨c, hc⟩ := get_of_len hl hj
    obtain ⟨u, h1, h2, h3⟩ := memAt_obj hH hid j c hc
    exact ⟨u, h1, h2, ih j c d hc hj h3 ρ N⟩
  induction h with
  | free hf => intro v hr ρ N; exact hr.free hf _ (fun b hb => .inl hb) ρ N
  | agg hl _ ih =>
    intro v hr ρ N
    cases hr with
    | agg hl' h1 h2 =>
      refine .agg (hl'.trans hl) h1 fun i d v hd hv => ?_
      obtain ⟨c, hc⟩ := get_of_len hl hd
      exact ih i c d hc hd (h2 i c v hc hv) ρ N
  | tup hl _ ih =>
    intro v hr ρ N
    cases hr with
    | tup hl' h2 =>
      refine .tup (hl'.trans hl) fun i d v hd hv => ?_
      obtain ⟨c, hc⟩ := get_of_len hl hd
      exact ih i c d hc hd (h2 i c v hc hv) ρ N
  | sl hl hl2 _ ih =>
    rename_i k sz es fs _
    intro v hr ρ N
    rcases rep_sl_inv hr with ⟨rfl, hes, rfl⟩ | ⟨hk, b, o, cap, rfl, hcap, hex, hI, hsz, hm⟩ | ⟨hk, hes, ad, rfl⟩
    rotate_right
    · have : fs = [] := List.eq_nil_of_length_eq_zero (by rw [← hl, hes]; rfl)
      subst this
      exact .slE hk
    · have : fs = [] := List.eq_nil_of_length_eq_zero (by rw [← hl, hes]; rfl)
      subst this
      exact .slNil sz
    · rw [hl]
      refine rep_sl_intro (e := e.still H ρ N) hk (fun hne => .inl (hI (fun h0 => hne (List.eq_nil_of_length_eq_zero (by rw [← hl, h0]; rfl))))) (by omega) (fun hx => by rw [← hl]; exact hex hx) (fun y hy => ?_) (fun i y hi j d hj => ?_)
      · obtain ⟨i, hi, hy'⟩ := List.getElem_of_mem hy
        have hyi : fs[i]? = some y := by simp [hi, hy']
        obtain ⟨x, hx⟩ := get_of_len hl hyi
        rw [← hl2 i x y hx hyi]
        exact hsz x (List.mem_of_getElem? hx)
      · obtain ⟨x, hx⟩ := get_of_len hl hi
        obtain ⟨c, hc⟩ := get_of_len (hl2 i x y hx hi) hj
        obtain ⟨u, h1, h2, h3⟩ := hm i x hx j c hc
        exact ⟨u, h1, h2, ih i j x y c d hx hi hc hj h3 ρ N⟩
  | ms hid hle hl _ ih =>
    rename_i id off len sz cs ds _
    intro v hr ρ N
    obtain ⟨hid', ad, cap, hsp, rfl, hlen, hroom⟩ := rep_ms_inv hr
    have hm := obj hid hl ih ρ N
    have hown : (e.still H ρ N).I (e.ρ id).1 := .inr ⟨id, _, hid, rfl⟩
    rcases hroom with h0 | ⟨rfl, _⟩
    · obtain rfl : len = 0 := by omega
      obtain ⟨b, o, s⟩ := ad
      simp only at hsp
      subst hsp
      have := rep_sl_intro (e := e.still H ρ N) (k := .any) (sz := sz) (es := []) (b := b) (o := o) (cap := cap) (by simp) (fun h => absurd rfl h) (by simp) (by simp) (by simp) (fun i x hi => by simp at hi)
      simpa [chunks] using this
    · refine rep_chunks (by simp) hown hlen (by simp) (by simp; omega) (fun j d hj => ?_)
      rw [List.getElem?_drop] at hj
      have := hm _ d hj
      rwa [← Nat.add_assoc] at this
  | mp hid hl _ ih =>
    intro v hr ρ N
    cases hr with
    | mp hid' => exact rep_ip_intro (.inr ⟨_, _, hid, rfl⟩) (obj hid hl ih ρ N)
  | ifc _ ih =>
    intro v hr ρ N
    cases hr with
    | ifc h1 => exact .ifc (ih h1 ρ N)
  | ip hl _ ih =>
    intro v hr ρ N
    obtain ⟨b, o, rfl, hm, hI⟩ := memAt_ip hr
    refine rep_ip_intro (e := e.still H ρ N) (.inl hI) (fun j d hj => ?_)
    obtain ⟨c, hc⟩ := get_of_len hl hj
    obtain ⟨u, h1, h2, h3⟩ := hm j c hc
    exact ⟨u, h1, h2, ih j c d hc hj h3 ρ N⟩
  | fn hl _ hl2 _ ih1 ih2 =>
    intro v hr ρ N
    cases hr with
    | fn hf hc k1 k2 =>
      refine .fn (hf.trans hl) (hc.trans hl2) (fun i y v hy hv => ?_) (fun i y v hy hv => ?_)
      · obtain ⟨x, hx⟩ := get_of_len hl hy
        exact ih1 i x y hx hy (k1 i x v hx hv) ρ N
      · obtain ⟨x, hx⟩ := get_of_len hl2 hy
        exact ih2 i x y hx hy (k2 i x v hx hv) ρ N

/-- Lists of values, seen one by one. -/
def ViewL (H : AHeap) (cs ds : List AV) : Prop := cs.length = ds.length ∧ ∀ (i : Nat) (c d : AV), cs[i]? = some c → ds[i]? = some d → View H c d

theorem ViewL.nil {H : AHeap} : ViewL H [] [] := ⟨rfl, fun i c d h => by simp at h⟩
theorem ViewL.cons {H : AHeap} {c d : AV} {cs ds : List AV} (h : View H c d) (k : ViewL H cs ds) : ViewL H (c :: cs) (d :: ds) :=
  ⟨by simp [k.1], fun i x y hx hy => by
    cases i with
    | zero => simp at hx hy; subst hx; subst hy; exact h
    | succ i => exact k.2 i x y (by simpa using hx) (by simpa using hy)⟩
theorem ViewL.refl {H : AHeap} {cs : List AV} (h : freeL cs = true) : ViewL H cs cs :=
  ⟨rfl, fun i c d hc hd => by rw [hc] at hd; cases hd; exact .free (freeL_get h hc)⟩
theorem View.tup' {H : AHeap} {cs ds : List AV} (h : ViewL H cs ds) : View H (.tup cs) (.tup ds) := .tup h.1 h.2
theorem View.agg' {H : AHeap} {cs ds : List AV} (h : ViewL H cs ds) : View H (.agg cs) (.agg ds) := .agg h.1 h.2
theorem View.ip' {H : AHeap} {cs ds : List AV} {off : Nat} (h : ViewL H cs ds) : View H (.ip cs off) (.ip ds off) := .ip h.1 h.2
theorem View.fn' {H : AHeap} {f : Fn} {a b c d : List AV} (h : ViewL H a c) (k : ViewL H b d) : View H (.fn f a b) (.fn f c d) := .fn h.1 h.2 k.1 k.2
theorem View.ms' {H : AHeap} {id len sz : Nat} {cs ds : List AV} (hid : H id = some (.blk cs)) (hl : len * sz ≤ cs.length) (h : ViewL H cs ds) : View H (.ms id 0 len sz) (.sl .any sz (chunks sz len ds)) := by
  have := View.ms (H := H) (off := 0) (len := len) (sz := sz) hid (by omega) h.1 h.2
  simpa using this

/-- Cells of one each. -/
theorem chunks_one : ∀ (ds : List AV), chunks 1 ds.length ds = ds.map fun d => [d]
  | [] => rfl
  | d :: ds => by simp [chunks, chunks_one ds]

/-- A contract without the heap, out of one that begins with none. -/
theorem PCall.of {f : FuncId} {args : List AV} {r : AV} (h : ∀ N, ACall P f args noHeap N (fun r' H' _ => View H' r' r)) : PCall P f args r := by
  refine ⟨(h 0).1, fun e vs hi hl hr => ?_⟩
  have hH : HRep e noHeap := ⟨(fun id o ho => by cases ho), (fun i j o o' ho => by cases ho), hi.1, hi.2⟩
  refine ((h e.N).2 e vs hH rfl hl hr).mono ?_
  rintro x w' ⟨v, e', r', H', rfl, rfl, hv, hrep, hH', htr⟩
  have hno : ∀ b, ¬ Own e noHeap b := fun b ⟨id, o, ho, _⟩ => by cases ho
  refine ⟨v, e'.still H' e.ρ e.N, rfl, rfl, hv.rep hH' hrep _ _, rfl, rfl, fun b hb => htr.fr b hb (hno b), fun b hb => .inl (htr.ext.I b hb), fun b hb => ?_, htr.size, htr.os, htr.tape, htr.output⟩
  rcases hb with hb | hb
  · rcases htr.im b hb with h1 | h1 | h1
    · exact .inl h1
    · exact absurd h1 (hno b)
    · exact .inr ⟨h1, hH'.imm b hb⟩
  · rcases htr.own b hb with h1 | h1
    · exact absurd h1 (hno b)
    · exact .inr ⟨h1, hH'.own_lt hb⟩

end
end Go.Fw
