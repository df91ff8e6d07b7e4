/- The framework: H6, L1, H7, L2, L3, H8, H9, HA, HB, HE, HF, HG, HI. -/
import Derived.Test.YtefejpckppabpaaGreatDoorM4
import Derived.Sort.Grow
import Derived.Lib.SlicesCompact
import Derived.SizedLaws
import Derived.Sort.EncStr
import Derived.Lib.SlTrimSet
import Derived.Below
/- Framework, part 25: iterators, and loops over them. -/
namespace Go.Fw
set_option linter.unusedSimpArgs false
set_option linter.unusedVariables false
open Go
set_option linter.unusedSectionVars false
variable [Globals]

theorem del_at {H : AHeap} {N id : Nat} : (H.del N) id = if id = N then none else H id := rfl
theorem del_none {H : AHeap} {N : Nat} (h : H N = none) : H.del N = H := by
  funext id
  simp only [AHeap.del]
  split
  · rename_i hi; rw [hi, h]
  · rfl
theorem del_set_ne {H : AHeap} {N id : Nat} {o : AObj} (h : id ≠ N) : (H.set id o).del N = (H.del N).set id o := by
  funext i
  simp only [AHeap.set, AHeap.del]
  by_cases h1 : i = N
  · subst h1; simp [Ne.symm h]
  · simp [h1]

section
variable {P : Program}

/-- An iterator that hands out these; what a round may do is told on what is the round's alone: whatever the iterator has of its own lies apart. -/
def SeqC (P : Program) (f : FuncId) (capt : List AV) (xs : List (List AV)) : Prop :=
  goodFn P f = true ∧ ∀ (y N : Nat) (H : AHeap) (J : Nat → AHeap → Prop) (Kx : AHeap → Prop), J 0 H →
    (∀ i x H1 N1, xs[i]? = some x → N ≤ N1 → J i H1 → YCall P y x H1 N1 (fun r H2 _ => (r = .lit (.bool true) ∧ J (i + 1) H2) ∨ (r = .lit (.bool false) ∧ Kx H2))) →
    ACall P f (.yl y :: capt) H N (fun _ H' N' => N ≤ N' ∧ (J xs.length H' ∨ Kx H'))

/-- What a round's body must come to. -/
def bodyQ (N : Nat) (ob : AObj) (Jn : AHeap → Prop) (Kx : AExit → AHeap → Prop) : Post := fun x s => s.H N = some ob ∧ (match x with
  | .normal => Jn (s.H.del N)
  | x => Kx x (s.H.del N))

def asgQ (P : Program) (N : Nat) (o ob : AObj) (body : ACode) (Jn : AHeap → Prop) (Kx : AExit → AHeap → Prop) : Post := fun x s => x = .normal ∧ s.H N = some o ∧ run P body [] (bodyQ N ob Jn Kx) ⟨s.A, s.H.set N ob, s.N⟩

theorem asgQ_n {N : Nat} {o ob : AObj} {body : ACode} {Jn : AHeap → Prop} {Kx : AExit → AHeap → Prop} {s : St} :
    asgQ P N o ob body Jn Kx .normal s = (s.H N = some o ∧ run P body [] (bodyQ N ob Jn Kx) ⟨s.A, s.H.set N ob, s.N⟩) := by simp [asgQ]
theorem bodyQ_n {N : Nat} {ob : AObj} {Jn : AHeap → Prop} {Kx : AExit → AHeap → Prop} {s : St} : bodyQ N ob Jn Kx .normal s = (s.H N = some ob ∧ Jn (s.H.del N)) := rfl
theorem bodyQ_e {N i : Nat} {ob : AObj} {Jn : AHeap → Prop} {Kx : AExit → AHeap → Prop} {s : St} : bodyQ N ob Jn Kx (.exit i) s = (s.H N = some ob ∧ Kx (.exit i) (s.H.del N)) := rfl
theorem bodyQ_r {N : Nat} {ob : AObj} {Jn : AHeap → Prop} {Kx : AExit → AHeap → Prop} {s : St} : bodyQ N ob Jn Kx .ret s = (s.H N = some ob ∧ Kx .ret (s.H.del N)) := rfl

theorem awp_mono {c : ACode} : ∀ {Q Q' : AExit → St → Prop} {s : St}, awp P c Q s → (∀ x s, Q x s → Q' x s) → awp P c Q' s := by
  have ops : ∀ (l : List AOper) {K K' : St → Prop} {s : St}, awpOps P l K s → (∀ s, K s → K' s) → awpOps P l K' s := by
    intro l
    induction l with
    | nil => intro K K' s h hk; exact hk _ h
    | cons o os ih => intro K K' s h hk; exact awpOp_mono (fun s hs => ih hs hk) h
  induction c with
  | skip => intro Q Q' s h hq; exact hq _ _ h
  | ops l => intro Q Q' s h hq; exact ops l h (fun s => hq _ s)
  | seq a b iha ihb =>
    intro Q Q' s h hq
    simp only [awp] at h ⊢
    refine iha h fun x s' hx => ?_
    cases x with
    | normal => exact ihb hx hq
    | exit i => exact hq _ _ hx
    | ret => exact hq _ _ hx
  | cond c a b iha ihb =>
    intro Q Q' s h hq
    simp only [awp] at h ⊢
    split at h
    · exact ⟨fun ht => iha (h.1 ht) hq, fun ht => ihb (h.2 ht) hq⟩
    · exact h.elim
  | block id a ih =>
    intro Q Q' s h hq
    simp only [awp] at h ⊢
    refine ih h fun x s' hx => ?_
    cases x with
    | normal => exact hq _ _ hx
    | exit i =>
      simp only at hx ⊢
      split at hx
      · rename_i hi; rw [if_pos hi]; exact hq _ _ hx
      · rename_i hi; rw [if_neg hi]; exact hq _ _ hx
    | ret => exact hq _ _ hx
  | loop a ih =>
    intro Q Q' s h hq
    simp only [awp] at h ⊢
    obtain ⟨J, n, h1, h2⟩ := h
    refine ⟨J, n, h1, fun n s' hs => ih (h2 n s' hs) fun x s'' hx => ?_⟩
    cases x with
    | normal => exact hx
    | exit i => exact hq _ _ hx
    | ret => exact hq _ _ hx
  | exit id => intro Q Q' s h hq; exact hq _ _ h
  | ret => intro Q Q' s h hq; exact hq _ _ h
  | range f ps a b iha ihb =>
    intro Q Q' s h hq
    simp only [awp] at h ⊢
    split at h
    · intro o ob od hr
      exact (h o ob od hr).mono fun r H' N' hx => hx.imp (fun hx => ⟨hx.1, hq _ _ hx.2⟩) (fun ⟨x, h1, h2, h3⟩ => ⟨x, h1, h2, hq _ _ h3⟩)
    · exact h.elim
  | draw l =>
    intro Q Q' s h hq
    obtain ⟨Inv, h1, h2, h3⟩ := h
    exact ⟨Inv, h1, h2, fun L s' ha hi => hq _ _ (h3 L s' ha hi)⟩
  | bad => intro Q Q' s h; exact h.elim

theorem run_mono {c : ACode} {Q Q' : Post} {s : St} (h : run P c [] Q s) (hq : ∀ x s, Q x s → Q' x s) : run P c [] Q' s := by
  unfold run at h ⊢
  exact awp_mono h hq

/-- A loop over an iterator. -/
theorem range_seq {f : FuncId} {capt : List AV} {xs : List (List AV)} (hs : SeqC P f capt xs) {ps : List Nat} {asg body : ACode} {fs : List Fr} {Q : Post} {A : Nat → AV} {H : AHeap} {N : Nat} (J : Nat → AHeap → Prop) (Kx : AExit → AHeap → Prop)
    (hps : ∀ x ∈ xs, x.length = ps.length) (hF : Fresh H N) (h0 : J 0 H)
    (hbody : ∀ (o ob : AObj) (i : Nat) (x : List AV) (G : AHeap) (N1 : Nat), xs[i]? = some x → N < N1 → Fresh G N1 → G N = none → J i G → run P asg [] (asgQ P N o ob body (J (i + 1)) Kx) ⟨putL A ps x, G.set N o, N1⟩)
    (hdone : ∀ (H2 : AHeap) (N2 : Nat), N ≤ N2 → J xs.length H2 → onward P fs Q .normal ⟨A, H2, N2⟩)
    (hexit : ∀ (x : AExit) (H2 : AHeap) (N2 : Nat), x ≠ .normal → N ≤ N2 → Kx x H2 → onward P fs Q x ⟨A, H2, N2⟩) : rangeK P (.fn (.func f) [] capt) ps asg body fs Q ⟨A, H, N⟩ := by
  intro o ob od hround
  have hdel : (H.set N o).del N = H := by rw [set_del, del_none (hF N (Nat.le_refl N))]
  refine (hs.2 N (N + 1) (H.set N o) (fun i G => G N = some o ∧ J i (G.del N)) (fun G => ∃ x : AExit, x ≠ .normal ∧ G N = some (od x) ∧ Kx x (G.del N))
    ⟨by simp [AHeap.set], by rw [hdel]; exact h0⟩ ?_).mono ?_
  · rintro i x H1 N1 hx hN1 ⟨h1, hJ⟩
    refine YCall.fresh fun hF1 => ?_
    refine hround x H1 N1 _ h1 (by rw [hps x (List.mem_of_getElem? hx)]) ?_
    have hG : (H1.del N).set N o = H1 := by
      funext id
      simp only [AHeap.set, AHeap.del]
      split
      · rename_i hi; rw [hi, h1]
      · rfl
    have hb := hbody o ob i x (H1.del N) N1 hx hN1 (fun j hj => by simp only [AHeap.del]; split; rfl; exact hF1 j hj) (by simp [AHeap.del]) hJ
    rw [hG] at hb
    refine run_mono hb ?_
    rintro y s ⟨rfl, hso, hb⟩
    refine ⟨rfl, hso, ?_⟩
    refine run_mono hb ?_
    rintro y s2 ⟨k1, k4⟩
    refine ⟨k1, ?_⟩
    cases y with
    | normal => exact .inl ⟨rfl, by simp [AHeap.set], by rw [set_del]; exact k4⟩
    | exit i => exact .inr ⟨rfl, .exit i, by simp, by simp [AHeap.set], by rw [set_del]; exact k4⟩
    | ret => exact .inr ⟨rfl, .ret, by simp, by simp [AHeap.set], by rw [set_del]; exact k4⟩
  · rintro r H' N' ⟨hN', ⟨h1, h2⟩ | ⟨x, hx, h1, h2⟩⟩
    · exact .inl ⟨h1, hdone _ _ (by omega) h2⟩
    · exact .inr ⟨x, hx, h1, hexit x _ _ hx (by omega) h2⟩

end

attribute [simp ↓] asgQ_n bodyQ_n bodyQ_e bodyQ_r
end Go.Fw

/- Library, part 1: numbers, slices that are read, slices that grow. -/
namespace Go.Fw
set_option linter.unusedSimpArgs false
set_option linter.unusedVariables false
open Go
set_option linter.unusedSectionVars false
variable [Globals]

abbrev i64 (n : Int) : AV := .lit (.int .i64 n)
abbrev u8 (n : Int) : AV := .lit (.int .u8 n)
abbrev bl (b : Bool) : AV := .lit (.bool b)
abbrev str (s : ByteArray) : AV := .lit (.string s)
abbrev w64 (n : Int) : Int := IntKind.i64.wrap n

theorem cells_i64 (n : Int) : (i64 n).cells = some [i64 n] := rfl
theorem cells_u8 (n : Int) : (u8 n).cells = some [u8 n] := rfl
theorem cells_bl (b : Bool) : (bl b).cells = some [bl b] := rfl
theorem cells_str (s : ByteArray) : (str s).cells = some [str s] := rfl
theorem cells_agg (cs : List AV) : (AV.agg cs).cells = some cs := rfl
theorem cells_sl (k : SK) (z : Nat) (es : List (List AV)) : (AV.sl k z es).cells = some [.sl k z es] := rfl
theorem cells_ms (id off len sz : Nat) : (AV.ms id off len sz).cells = some [.ms id off len sz] := rfl
theorem cells_mp (id off : Nat) : (AV.mp id off).cells = some [.mp id off] := rfl
theorem cells_ip (cs : List AV) (off : Nat) : (AV.ip cs off).cells = some [.ip cs off] := rfl
theorem cells_fn (f : Fn) (a b : List AV) : (AV.fn f a b).cells = some [.fn f a b] := rfl
theorem cells_mm (id : Nat) : (AV.mm id).cells = some [.mm id] := rfl
theorem cells_ifc (t : TypeId) (a : AV) : (AV.ifc t a).cells = some [.ifc t a] := rfl
attribute [simp] cells_mm cells_ifc cells_i64 cells_u8 cells_bl cells_str cells_agg cells_sl cells_ms cells_mp cells_ip cells_fn

theorem wrap_i64 {n : Int} (h : -9223372036854775808 ≤ n) (h2 : n < 9223372036854775808) : IntKind.i64.wrap n = n := by
  simp [IntKind.wrap, IntKind.min, IntKind.max, IntKind.bits, IntKind.signed]
  omega

theorem splice_full {vcs cs : List AV} (h : vcs.length = cs.length) : splice 0 vcs cs = vcs := by
  rw [splice_eq (by omega)]
  simp [h]

/-- What may stand for another value. -/
def RepLe (a b : AV) : Prop := ∀ (e : Env) (v : Value), Rep e a v → Rep e b v

theorem RepLe.refl (a : AV) : RepLe a a := fun _ _ h => h
theorem RepLe.nil {z z' : Nat} : RepLe (.sl .nil z []) (.sl .nil z' []) := fun e v h => by
  rcases rep_sl_inv h with ⟨_, _, rfl⟩ | ⟨h0, _⟩ | ⟨h0, _⟩
  · exact .slNil z'
  · exact absurd rfl h0
  · exact absurd rfl h0

section
variable {P : Program}

theorem ACall.conv {f : FuncId} {args args' : List AV} {H : AHeap} {N : Nat} {Q : AV → AHeap → Nat → Prop} (h : ACall P f args' H N Q) (hl : args.length = args'.length) (hr : ∀ (i : Nat) (a b : AV), args[i]? = some a → args'[i]? = some b → RepLe a b) :
    ACall P f args H N Q :=
  ⟨h.1, fun e vs h1 h2 h3 h4 => h.2 e vs h1 h2 (h3.trans hl) (fun i c v hc hv => by
    have hi : i < args'.length := (List.getElem?_eq_some_iff.1 hc).1
    have ha : args[i]? = some (args[i]'(by omega)) := by simp [show i < args.length by omega]
    exact hr i _ c ha hc e v (h4 i _ v ha hv))⟩
end

/-- A pointer to cells. -/
def PtTo (H : AHeap) (p : AV) (cs : List AV) : Prop := p = .ip cs 0 ∨ ∃ (id off : Nat) (ds : List AV), p = .mp id off ∧ H id = some (.blk ds) ∧ off + cs.length ≤ ds.length ∧ (ds.drop off).take cs.length = cs

theorem PtTo.load {H : AHeap} {p : AV} {cs : List AV} (h : PtTo H p cs) : aload H true cs.length p = some (.agg cs) := by
  rcases h with rfl | ⟨id, off, ds, rfl, h1, h2, h3⟩
  · simp [aload, apart]
  · simp [aload, apart, h1, h2, h3]

theorem PtTo.cell {H : AHeap} {p : AV} {cs : List AV} (h : PtTo H p cs) {k : Nat} {c : AV} (hk : cs[k]? = some c) : ∃ q, afield k p = some q ∧ aload H false 1 q = some c := by
  have hlt : k < cs.length := (List.getElem?_eq_some_iff.1 hk).1
  rcases h with rfl | ⟨id, off, ds, rfl, h1, h2, h3⟩
  · exact ⟨.ip cs k, by simp [afield], by simp [aload, apart, hk]⟩
  · refine ⟨.mp id (off + k), by simp [afield], ?_⟩
    have : ds[off + k]? = some c := by
      rw [← h3, List.getElem?_take, if_pos hlt, List.getElem?_drop] at hk
      exact hk
    simp [aload, apart, h1, this]

theorem PtTo.one {H : AHeap} {p c : AV} (h : PtTo H p [c]) : aload H false 1 p = some c := by
  rcases h with rfl | ⟨id, off, ds, rfl, h1, h2, h3⟩
  · simp [aload, apart]
  · have : ds[off]? = some c := by
      have hk : ([c] : List AV)[0]? = some c := rfl
      rw [← h3, List.getElem?_take, if_pos (by simp), List.getElem?_drop] at hk
      simpa using hk
    simp [aload, apart, h1, this]

/-- A slice that reads as these elements. -/
def RdSl (H : AHeap) (sz : Nat) (es : List (List AV)) (a : AV) : Prop :=
  (∃ k z, a = .sl k z es ∧ (z = sz ∨ es = [])) ∨ ∃ (id off : Nat) (ds : List AV), a = .ms id off es.length sz ∧ (es = [] ∨ H id = some (.blk ds) ∧ off + es.length * sz ≤ ds.length ∧ (ds.drop off).take (es.length * sz) = es.flatten)

theorem RdSl.sl {H : AHeap} {sz : Nat} {es : List (List AV)} (k : SK) : RdSl H sz es (.sl k sz es) := .inl ⟨k, sz, rfl, .inl rfl⟩
theorem RdSl.nil {H : AHeap} {sz : Nat} (k : SK) (z : Nat) : RdSl H sz [] (.sl k z []) := .inl ⟨k, z, rfl, .inr rfl⟩
theorem RdSl.ms {H : AHeap} {sz id : Nat} {es : List (List AV)} (h : H id = some (.blk es.flatten)) (hsz : es.flatten.length = es.length * sz) : RdSl H sz es (.ms id 0 es.length sz) :=
  .inr ⟨id, 0, es.flatten, rfl, .inr ⟨h, by omega, by rw [List.drop_zero, ← hsz, List.take_length]⟩⟩

theorem RdSl.len {H : AHeap} {sz : Nat} {es : List (List AV)} {a : AV} (h : RdSl H sz es a) : alen 1 a = some (es.length : Int) := by
  rcases h with ⟨k, z, rfl, _⟩ | ⟨id, off, ds, rfl, _⟩ <;> rfl

theorem flatten_at {sz : Nat} : ∀ {es : List (List AV)}, (∀ x ∈ es, x.length = sz) → ∀ {i : Nat} {x : List AV}, es[i]? = some x → (es.flatten.drop (i * sz)).take sz = x
  | [], _, i, x, h => by simp at h
  | y :: es, hs, 0, x, h => by
    simp at h; subst h
    have := hs y (by simp)
    simp [← this]
  | y :: es, hs, i + 1, x, h => by
    have hy := hs y (by simp)
    have := flatten_at (es := es) (fun z hz => hs z (by simp [hz])) (i := i) (x := x) (by simpa using h)
    rw [List.flatten_cons, Nat.add_mul, Nat.one_mul, Nat.add_comm, ← List.drop_drop, List.drop_left' hy]
    exact this

theorem RdSl.at {H : AHeap} {sz : Nat} {es : List (List AV)} {a : AV} (h : RdSl H sz es a) (hs : ∀ x ∈ es, x.length = sz) {i : Nat} {x : List AV} (hi : es[i]? = some x) : ∃ p, aindex sz a (i64 i) = some p ∧ PtTo H p x := by
  have hlt : i < es.length := (List.getElem?_eq_some_iff.1 hi).1
  have hx : es[i] = x := (List.getElem?_eq_some_iff.1 hi).2
  have hne : es ≠ [] := by intro h0; rw [h0] at hlt; simp at hlt
  rcases h with ⟨k, z, rfl, hz⟩ | ⟨id, off, ds, rfl, hm⟩
  · have hz' : z = sz := hz.resolve_right hne
    subst hz'
    exact ⟨.ip x 0, by simp [aindex, hlt, hx], .inl rfl⟩
  · obtain ⟨h1, h2, h3⟩ := hm.resolve_left hne
    have hxl := hs x (List.mem_of_getElem? hi)
    have hle : i * sz + sz ≤ es.length * sz := by rw [← Nat.succ_mul]; exact Nat.mul_le_mul_right _ hlt
    refine ⟨.mp id (off + i * sz), by simp [aindex, hlt], .inr ⟨id, off + i * sz, ds, rfl, h1, by omega, ?_⟩⟩
    have h4 := flatten_at hs hi
    rw [← h3] at h4
    rw [hxl]
    rw [List.drop_take, List.take_take, List.drop_drop, Nat.min_eq_left (by omega)] at h4
    exact h4

/-- A slice of its own, that grows: behind 'lo' lies what is of its own; 'z' it is at first. -/
def Built (H : AHeap) (lo sz : Nat) (z : AV) (es : List (List AV)) (v : AV) : Prop :=
  (∀ x ∈ es, x.length = sz) ∧ ((es = [] ∧ v = z ∧ ((∃ k, z = .sl .exact k []) ∨ ∃ k, z = .sl .nil k [])) ∨ (es ≠ [] ∧ ∃ id, lo ≤ id ∧ v = .ms id 0 es.length sz ∧ H id = some (.blk es.flatten)))

theorem Built.empty {H : AHeap} {lo sz k : Nat} : Built H lo sz (.sl .exact k []) [] (.sl .exact k []) := ⟨by simp, .inl ⟨rfl, rfl, .inl ⟨k, rfl⟩⟩⟩
theorem Built.nil {H : AHeap} {lo sz k : Nat} : Built H lo sz (.sl .nil k []) [] (.sl .nil k []) := ⟨by simp, .inl ⟨rfl, rfl, .inr ⟨k, rfl⟩⟩⟩

theorem flatten_len {sz : Nat} : ∀ {es : List (List AV)}, (∀ x ∈ es, x.length = sz) → es.flatten.length = es.length * sz := length_flatten_eq

theorem Built.rd {H : AHeap} {lo sz : Nat} {z : AV} {es : List (List AV)} {v : AV} (h : Built H lo sz z es v) : RdSl H sz es v := by
  obtain ⟨hs, ⟨rfl, rfl, ⟨k, rfl⟩ | ⟨k, rfl⟩⟩ | ⟨_, id, _, rfl, h2⟩⟩ := h
  · exact .nil _ _
  · exact .nil _ _
  · exact .ms h2 (flatten_len hs)

theorem RdSl.cells {H : AHeap} {sz : Nat} {es : List (List AV)} {v : AV} (h : RdSl H sz es v) : v.cells = some [v] := by
  rcases h with ⟨k, z, rfl, _⟩ | ⟨id, off, ds, rfl, _⟩ <;> rfl

theorem Built.keep {H H' : AHeap} {lo sz : Nat} {z : AV} {es : List (List AV)} {v : AV} (h : Built H lo sz z es v) (hk : ∀ j, lo ≤ j → H' j = H j) : Built H' lo sz z es v := by
  obtain ⟨b1, b2⟩ := h
  refine ⟨b1, b2.imp id ?_⟩
  rintro ⟨hne, id, hid, rfl, hH⟩
  exact ⟨hne, id, hid, rfl, by rw [hk id hid, hH]⟩

/-- Something appended. -/
theorem Built.append {H : AHeap} {lo sz N bytes : Nat} {z : AV} {es ns : List (List AV)} {v y : AV} (h : Built H lo sz z es v) (hf : Fresh H N) (hlo : lo ≤ N) (hsrc : asrc H sz y = some (ns.flatten, ns.length)) (hns : ∀ x ∈ ns, x.length = sz)
    (hlim : (es.length + ns.length) * bytes ≤ lim) (hlim2 : es.length + ns.length ≤ 9223372036854775807) :
    ∃ v' H' N', aappend false sz bytes H N v y = some (v', H', N') ∧ Built H' lo sz z (es ++ ns) v' ∧ (∀ j, j < lo → H' j = H j) ∧ N ≤ N' ∧ Fresh H' N' := by
  obtain ⟨hs, hv⟩ := h
  have hall : ∀ x ∈ es ++ ns, x.length = sz := fun x hx => (List.mem_append.1 hx).elim (hs x) (hns x)
  rcases hv with ⟨rfl, rfl, hz⟩ | ⟨hne, id, hid, rfl, hH⟩
  · by_cases hn0 : ns.length = 0
    · have hn : ns = [] := List.eq_nil_of_length_eq_zero hn0
      subst hn
      refine ⟨v, H, N, ?_, ⟨by simp, .inl ⟨rfl, rfl, hz⟩⟩, fun _ _ => rfl, Nat.le_refl _, hf⟩
      rcases hz with ⟨k, rfl⟩ | ⟨k, rfl⟩ <;> simp [aappend, hsrc, -asrc]
    · have hnn : ns ≠ [] := by intro h0; rw [h0] at hn0; simp at hn0
      refine ⟨.ms N 0 ns.length sz, H.set N (.blk ns.flatten), N + 1, ?_, ⟨by simpa using hns, .inr ⟨by simpa using hnn, N, hlo, by simp, by simp [AHeap.set]⟩⟩, fun j hj => ?_, Nat.le_succ _, hf.set _⟩
      · simp at hlim hlim2
        rcases hz with ⟨k, rfl⟩ | ⟨k, rfl⟩ <;> simp [aappend, hsrc, hn0, hlim, hlim2, -asrc]
      · simp only [AHeap.set]; rw [if_neg (by omega)]
  · have hidN : id < N := hf.lt hH
    refine ⟨.ms N 0 (es.length + ns.length) sz, (H.del id).set N (.blk (es.flatten ++ ns.flatten)), N + 1, ?_, ⟨hall, .inr ⟨by simp [hne], N, hlo, by simp, by simp [AHeap.set]⟩⟩, fun j hj => ?_, Nat.le_succ _, ?_⟩
    · have hfl := flatten_len hs
      simp only [aappend, hsrc, hH]
      have hc : True ∧ 0 + es.length * sz ≤ es.flatten.length ∧ (es.length + ns.length) * bytes ≤ lim ∧ es.length + ns.length ≤ 9223372036854775807 := ⟨trivial, by omega, hlim, hlim2⟩
      rw [if_pos hc, List.drop_zero, ← hfl, List.take_length]
    · simp only [AHeap.set, AHeap.del]; rw [if_neg (by omega), if_neg (by omega)]
    · intro j hj
      simp only [AHeap.set, AHeap.del]
      rw [if_neg (by omega)]
      split
      · rfl
      · exact hf j (by omega)

/-- One more. -/
theorem Built.push {H : AHeap} {lo sz N bytes : Nat} {z : AV} {es : List (List AV)} {x : List AV} {v : AV} {k : SK} (h : Built H lo sz z es v) (hf : Fresh H N) (hlo : lo ≤ N) (hx : x.length = sz)
    (hlim : (es.length + 1) * bytes ≤ lim) (hlim2 : es.length + 1 ≤ 9223372036854775807) :
    ∃ v' H' N', aappend false sz bytes H N v (.sl k sz [x]) = some (v', H', N') ∧ Built H' lo sz z (es ++ [x]) v' ∧ (∀ j, j < lo → H' j = H j) ∧ N ≤ N' ∧ Fresh H' N' :=
  h.append hf hlo (ns := [x]) (by simp [asrc]) (by simpa using hx) hlim hlim2

/-- What a slice that grew reads as when nobody writes it any more. -/
def bsl (z : AV) (sz : Nat) (es : List (List AV)) : AV := match es with
  | [] => z
  | es => .sl .any sz es

theorem chunks_flatten {sz : Nat} : ∀ {es : List (List AV)}, (∀ x ∈ es, x.length = sz) → chunks sz es.length es.flatten = es
  | [], _ => rfl
  | x :: es, hs => by
    have hx := hs x (by simp)
    have ih := chunks_flatten (es := es) fun y hy => hs y (by simp [hy])
    simp only [List.length_cons, chunks, List.flatten_cons]
    rw [List.take_left' hx, List.drop_left' hx, ih]

theorem Built.src {H : AHeap} {lo sz : Nat} {z : AV} {es : List (List AV)} {v : AV} (h : Built H lo sz z es v) : asrc H sz v = some (es.flatten, es.length) := by
  obtain ⟨hs, ⟨rfl, rfl, ⟨k, rfl⟩ | ⟨k, rfl⟩⟩ | ⟨_, id, _, rfl, h2⟩⟩ := h
  · simp [asrc]
  · simp [asrc]
  · have := flatten_len hs
    simp only [asrc, h2]
    rw [if_pos ⟨trivial, by omega⟩, List.drop_zero, ← this, List.take_length]

theorem Built.view {H : AHeap} {lo sz : Nat} {z : AV} {es : List (List AV)} {v : AV} (h : Built H lo sz z es v) (hfree : freeLL es = true) : View H v (bsl z sz es) := by
  obtain ⟨hs, ⟨rfl, rfl, hz⟩ | ⟨hne, id, _, rfl, h2⟩⟩ := h
  · rcases hz with ⟨k, rfl⟩ | ⟨k, rfl⟩ <;> exact .free rfl
  · have hb : bsl z sz es = .sl .any sz es := by cases es with | nil => exact absurd rfl hne | cons => rfl
    rw [hb]
    have hff : freeL es.flatten = true := by
      clear h2 hne hs hb
      induction es with
      | nil => rfl
      | cons x es ih =>
        simp only [freeLL, Bool.and_eq_true] at hfree
        have app : ∀ (a b : List AV), freeL a = true → freeL b = true → freeL (a ++ b) = true := fun a b ha hb => by
          induction a with
          | nil => exact hb
          | cons y a ih => simp only [List.cons_append, freeL, Bool.and_eq_true] at ha ⊢; exact ⟨ha.1, ih ha.2⟩
        exact app _ _ hfree.1 (ih hfree.2)
    have := View.ms' (H := H) (sz := sz) (len := es.length) h2 (by rw [flatten_len hs]; exact Nat.le_refl _) (ViewL.refl hff)
    rw [chunks_flatten hs] at this
    exact this

theorem bsl_rd {H : AHeap} {sz : Nat} {z : AV} {es : List (List AV)} (hz : ∃ k n, z = .sl k n []) : RdSl H sz es (bsl z sz es) := by
  cases es with
  | nil => obtain ⟨k, n, rfl⟩ := hz; exact .nil _ _
  | cons x es => exact .sl _

end Go.Fw

/- Framework, part 26: calls that only make memory, whose answer is told by what holds of it. -/
namespace Go.Fw
set_option linter.unusedSimpArgs false
set_option linter.unusedVariables false
open Go
set_option linter.unusedSectionVars false
variable [Globals]

/-- A call that only makes memory; its answer, which nobody writes, meets S. -/
def PCallS (P : Program) (f : FuncId) (args : List AV) (S : AV → Prop) : Prop :=
  goodFn P f = true ∧ ∀ (e : Env) (vs : List Value), ((∀ b, e.I b → b < e.w.heap.size) ∧ GlobOk e) → vs.length = args.length → (∀ (i : Nat) (c : AV) (v : Value), args[i]? = some c → vs[i]? = some v → Rep e c v) →
    Calls P f vs.toArray e.w (fun x w' => ∃ r v e', S r ∧ x = .returned v ∧ e'.w = w' ∧ Rep e' r v ∧ PTr e e')

section
variable {P : Program} {f : FuncId} {args : List AV} {S : AV → Prop}

theorem PCallS.acall (h : PCallS P f args S) {H : AHeap} {N : Nat} {Q : AV → AHeap → Nat → Prop} (hq : ∀ r, S r → Q r H N) : ACall P f args H N Q :=
  ⟨h.1, fun e vs h1 h2 h3 h4 => (h.2 e vs ⟨h1.imm, h1.gl⟩ h3 h4).mono fun _ _ ⟨r, v, e', s, a, b, c, d⟩ => ⟨v, e', r, H, a, b, by rw [d.N, h2]; exact hq r s, c, d.hrep h1, d.tr h1⟩⟩

theorem PCallS.mono {S' : AV → Prop} (h : PCallS P f args S) (hs : ∀ r, S r → S' r) : PCallS P f args S' :=
  ⟨h.1, fun e vs h1 h2 h3 => (h.2 e vs h1 h2 h3).mono fun _ _ ⟨r, v, e', s, k⟩ => ⟨r, v, e', hs r s, k⟩⟩

theorem PCallS.of (h : ∀ N, ACall P f args noHeap N (fun r' H' _ => ∃ r, View H' r' r ∧ S r)) : PCallS P f args S := by
  refine ⟨(h 0).1, fun e vs hi hl hr => ?_⟩
  have hH : HRep e noHeap := ⟨(fun id o ho => by cases ho), (fun i j o o' ho => by cases ho), hi.1, hi.2⟩
  refine ((h e.N).2 e vs hH rfl hl hr).mono ?_
  rintro x w' ⟨v, e', r', H', rfl, rfl, ⟨r, hv, hs⟩, hrep, hH', htr⟩
  have hno : ∀ b, ¬ Own e noHeap b := fun b ⟨id, o, ho, _⟩ => by cases ho
  refine ⟨r, v, e'.still H' e.ρ e.N, hs, rfl, rfl, hv.rep hH' hrep _ _, rfl, rfl, fun b hb => htr.fr b hb (hno b), fun b hb => .inl (htr.ext.I b hb), fun b hb => ?_, htr.size, htr.os, htr.tape, htr.output⟩
  rcases hb with hb | hb
  · rcases htr.im b hb with h1 | h1 | h1
    · exact .inl h1
    · exact absurd h1 (hno b)
    · exact .inr ⟨h1, hH'.imm b hb⟩
  · rcases htr.own b hb with h1 | h1
    · exact absurd h1 (hno b)
    · exact .inr ⟨h1, hH'.own_lt hb⟩

end
end Go.Fw

/- Library, part 2: lists of numbers; pieces of code that are hidden. -/
namespace Go.Fw
set_option linter.unusedSimpArgs false
set_option linter.unusedVariables false
open Go
set_option linter.unusedSectionVars false

variable [Globals]

def intCells (l : List Int) : List (List AV) := l.map fun v => [i64 v]
theorem intCells_len (l : List Int) : (intCells l).length = l.length := by simp [intCells]
theorem intCells_sz (l : List Int) : ∀ x ∈ intCells l, x.length = 1 := fun x hx => by
  obtain ⟨v, _, rfl⟩ := List.mem_map.1 hx; rfl
theorem intCells_free (l : List Int) : freeLL (intCells l) = true := freeLL_map _ l (fun _ _ => rfl)
theorem intCells_app (l r : List Int) : intCells (l ++ r) = intCells l ++ intCells r := by simp [intCells]
theorem intCells_at {l : List Int} {i : Nat} (h : i < l.length) : (intCells l)[i]? = some [i64 l[i]] := by simp [intCells, h]
theorem intCells_flat (l : List Int) : (intCells l).flatten = l.map i64 := by
  induction l with
  | nil => rfl
  | cons a l ih => simp only [intCells, List.map_cons, List.flatten_cons] at ih ⊢; rw [ih]; rfl

theorem take_next {α : Type} {l : List α} {j : Nat} (h : j < l.length) : l.take (j + 1) = l.take j ++ [l[j]] := by
  rw [List.take_add_one]; simp [h]

theorem aload_ip (H : AHeap) (cs : List AV) (off : Nat) : aload H false 1 (.ip cs off) = cs[off]? := rfl

theorem aindex_sl {k : SK} {sz : Nat} {es : List (List AV)} {x : List AV} {n : Int} (h0 : 0 ≤ n) (h : es[n.toNat]? = some x) : aindex sz (.sl k sz es) (i64 n) = some (.ip x 0) := by
  have hlt : n.toNat < es.length := (List.getElem?_eq_some_iff.1 h).1
  have hx : es[n.toNat] = x := (List.getElem?_eq_some_iff.1 h).2
  simp [aindex, h0, show n < es.length by omega, hx]

theorem elem_of {α : Type} {f : α → List AV} {l : List α} {k : SK} {z j : Nat} (h : j < l.length) : aindex z (.sl k z (l.map f)) (i64 j) = some (.ip (f l[j]) 0) :=
  aindex_sl (by omega) (by simp [h])

theorem asrc_one (H : AHeap) (v : Int) : asrc H 1 (.sl .exact 1 [[i64 v]]) = some ((intCells [v]).flatten, [v].length) := rfl

section
variable {H H' : AHeap} {N lo sz : Nat} {v y z : AV} {l ns : List Int}

theorem built_later {es : List (List AV)} (h : Built H lo sz z es v) (hF : Fresh H N) (hk : ∀ j, j < N → H' j = H j) : Built H' lo sz z es v := by
  obtain ⟨b1, b2⟩ := h
  refine ⟨b1, b2.imp id ?_⟩
  rintro ⟨hne, id, hid, rfl, hH⟩
  exact ⟨hne, id, hid, rfl, by rw [hk id (hF.lt hH), hH]⟩

theorem app_ints (hB : Built H lo 1 z (intCells l) v) (hF : Fresh H N) (hlo : lo ≤ N) (hy : asrc H 1 y = some ((intCells ns).flatten, ns.length)) (hl : l.length + ns.length ≤ 1000000000000) :
    ∃ v' H' N', aappend false 1 8 H N v y = some (v', H', N') ∧ Built H' lo 1 z (intCells (l ++ ns)) v' ∧ (∀ j, j < lo → H' j = H j) ∧ N ≤ N' ∧ Fresh H' N' := by
  rw [intCells_app]
  exact hB.append hF hlo (by rw [hy, intCells_len]) (intCells_sz ns) (by rw [intCells_len, intCells_len]; unfold lim; omega) (by rw [intCells_len, intCells_len]; omega)

theorem app_nil (hF : Fresh H N) (hy : asrc H 1 y = some ((intCells ns).flatten, ns.length)) (hl : ns.length ≤ 1000000000000) :
    ∃ v' H' N', aappend false 1 8 H N (.sl .nil 0 []) y = some (v', H', N') ∧ Built H' N 1 (.sl .nil 0 []) (intCells ns) v' ∧ (∀ j, j < N → H' j = H j) ∧ N ≤ N' ∧ Fresh H' N' := by
  have := app_ints (l := []) (lo := N) (z := .sl .nil 0 []) (v := .sl .nil 0 []) (H := H) Built.nil hF (Nat.le_refl _) hy (by simpa using hl)
  simpa using this

theorem bsl_ints (k : SK) (n : Nat) (l : List Int) : ∃ k' z, bsl (.sl k n []) 1 (intCells l) = .sl k' z (intCells l) ∧ (z = 1 ∨ l = []) := by
  cases l with
  | nil => exact ⟨_, _, rfl, .inr rfl⟩
  | cons a l => exact ⟨_, _, rfl, .inl rfl⟩
end

/-- A row of numbers, as a value. -/
structure RowV where
  k : SK
  z : Nat
  l : List Int
def RowV.av (r : RowV) : AV := .sl r.k r.z (intCells r.l)
structure RowV.Ok (r : RowV) : Prop where
  hz : r.z = 1 ∨ r.l = []
  hl : r.l.length ≤ maxLen
theorem RowV.Ok.rd {r : RowV} (h : r.Ok) (H : AHeap) : RdSl H 1 (intCells r.l) r.av := .inl ⟨_, _, rfl, h.hz.imp id fun h => by rw [h]; rfl⟩
theorem RowV.free (r : RowV) : r.av.free = true := by simp [RowV.av, AV.free, intCells_free]
theorem RowV.cells (r : RowV) : r.av.cells = some [r.av] := rfl

end Go.Fw

/- Library, part 3: rows of slices that grow, each on its own. -/
namespace Go.Fw
set_option linter.unusedSimpArgs false
set_option linter.unusedVariables false
open Go
set_option linter.unusedSectionVars false
variable [Globals]

section
variable {H : AHeap} {N lo o : Nat} {cs : List AV} {w : List (List Int)} {l : List Int} {c : Nat}

/-- One more: just what changes. -/
theorem push_raw {sz bytes : Nat} {z : AV} {es : List (List AV)} {x : List AV} {v : AV} {k : SK} (h : Built H lo sz z es v) (hf : Fresh H N) (hlo : lo ≤ N) (hx : x.length = sz) (hlim : (es.length + 1) * bytes ≤ lim) (hlim2 : es.length + 1 ≤ 9223372036854775807) :
    ∃ H', aappend false sz bytes H N v (.sl k sz [x]) = some (.ms N 0 (es.length + 1) sz, H', N + 1) ∧ H' N = some (.blk (es ++ [x]).flatten) ∧ (∀ j, j ≠ N → (∀ n, v ≠ .ms j 0 n sz) → H' j = H j) ∧ Fresh H' (N + 1) ∧ Built H' lo sz z (es ++ [x]) (.ms N 0 (es.length + 1) sz) := by
  obtain ⟨hs, hv⟩ := h
  have hall : ∀ y ∈ es ++ [x], y.length = sz := fun y hy => (List.mem_append.1 hy).elim (hs y) (fun h => by rw [List.mem_singleton.1 h]; exact hx)
  have hfl : (es ++ [x]).flatten = es.flatten ++ x := by simp
  have hsrc : asrc H sz (.sl k sz [x]) = some (x, 1) := by simp [asrc]
  rcases hv with ⟨rfl, rfl, hz⟩ | ⟨hne, id, hid, rfl, hH⟩
  · refine ⟨H.set N (.blk x), ?_, by simp [AHeap.set], fun j hj _ => by simp only [AHeap.set]; rw [if_neg hj], hf.set _, by simpa using hx, .inr ⟨by simp, N, hlo, by simp, by simp [AHeap.set]⟩⟩
    simp at hlim hlim2
    rcases hz with ⟨k, rfl⟩ | ⟨k, rfl⟩ <;> simp [aappend, hsrc, hlim, -asrc]
  · have hidN : id < N := hf.lt hH
    refine ⟨(H.del id).set N (.blk (es.flatten ++ x)), ?_, by simp [AHeap.set], fun j hj hv => ?_, ?_, hall, .inr ⟨by simp, N, hlo, by simp, by simp [AHeap.set]⟩⟩
    · have hfl := flatten_len hs
      simp only [aappend, hsrc, hH]
      have hc : True ∧ 0 + es.length * sz ≤ es.flatten.length ∧ (es.length + 1) * bytes ≤ lim ∧ es.length + 1 ≤ 9223372036854775807 := ⟨trivial, by omega, hlim, hlim2⟩
      rw [if_pos hc, List.drop_zero, ← hfl, List.take_length]
    · have hji : j ≠ id := fun he => by subst he; exact hv _ rfl
      simp only [AHeap.set, AHeap.del]; rw [if_neg hj, if_neg hji]
    · intro j hj
      simp only [AHeap.set, AHeap.del]
      rw [if_neg (by omega)]
      split
      · rfl
      · exact hf j (by omega)

/-- A row of slices of numbers, each of its own. -/
structure RowsAt (H : AHeap) (lo o : Nat) (w : List (List Int)) (cs : List AV) : Prop where
  at_ : H o = some (.blk cs)
  len : cs.length = w.length
  olo : o < lo
  row : ∀ (c : Nat) (l : List Int) (a : AV), w[c]? = some l → cs[c]? = some a → Built H lo 1 (.sl .nil 0 []) (intCells l) a
  apart : ∀ (c c' id n n' : Nat), cs[c]? = some (.ms id 0 n 1) → cs[c']? = some (.ms id 0 n' 1) → c = c'

theorem RowsAt.start (n : Nat) (h : H o = some (.blk (List.replicate n (.sl .nil 0 [])))) (ho : o < lo) : RowsAt H lo o (List.replicate n []) (List.replicate n (.sl .nil 0 [])) where
  at_ := h
  len := by simp
  olo := ho
  row := fun c l a h1 h2 => by
    have e1 := List.mem_of_getElem? h1
    have e2 := List.mem_of_getElem? h2
    rw [List.eq_of_mem_replicate e1, List.eq_of_mem_replicate e2]
    exact Built.nil
  apart := fun c c' id n1 n2 h1 h2 => by
    have e1 := List.eq_of_mem_replicate (List.mem_of_getElem? h1)
    cases e1

theorem RowsAt.keep {H' : AHeap} (h : RowsAt H lo o w cs) (hk : ∀ j, (j = o ∨ lo ≤ j) → H' j = H j) : RowsAt H' lo o w cs where
  at_ := by rw [hk o (.inl rfl)]; exact h.at_
  len := h.len
  olo := h.olo
  row := fun c l a h1 h2 => (h.row c l a h1 h2).keep fun j hj => hk j (.inr hj)
  apart := h.apart

/-- One more in a row. -/
theorem RowsAt.push (h : RowsAt H lo o w cs) (hF : Fresh H N) (hlo : lo ≤ N) (hc : w[c]? = some l) (hl : l.length ≤ 1000000000000) (v : Int) :
    ∃ a H', cs[c]? = some a ∧ a.cells = some [a] ∧ aappend false 1 8 H N a (.sl .exact 1 [[i64 v]]) = some (.ms N 0 (l.length + 1) 1, H', N + 1) ∧ H' o = some (.blk cs) ∧ (∀ j, j < lo → H' j = H j) ∧ Fresh H' (N + 1) ∧
      RowsAt (H'.set o (.blk (cs.set c (.ms N 0 (l.length + 1) 1)))) lo o (w.set c (l ++ [v])) (cs.set c (.ms N 0 (l.length + 1) 1)) := by
  have hcw : c < w.length := (List.getElem?_eq_some_iff.1 hc).1
  have hcl : c < cs.length := by rw [h.len]; exact hcw
  have ha : cs[c]? = some cs[c] := List.getElem?_eq_getElem hcl
  have hB := h.row c l _ hc ha
  obtain ⟨H', happ, hN, hold, hF', hB'⟩ := push_raw (bytes := 8) (k := .exact) (x := [i64 v]) hB hF hlo rfl (by rw [intCells_len]; unfold lim; omega) (by rw [intCells_len]; omega)
  rw [intCells_len] at happ hB'
  have hlow : ∀ j, j < lo → H' j = H j := fun j hj => hold j (by omega) fun n he => by
    rw [he] at hB
    obtain ⟨_, ⟨_, h2, _⟩ | ⟨_, id, hid, h2, _⟩⟩ := hB
    · cases h2
    · cases h2; omega
  have hoN : o ≠ N := by have := h.olo; omega
  refine ⟨cs[c], H', ha, hB.rd.cells, happ, (hlow o h.olo).trans h.at_, hlow, hF', ⟨by simp [AHeap.set], by simp [h.len], h.olo, fun c' l' a' h1 h2 => ?_, fun c1 c2 id n n' h1 h2 => ?_⟩⟩
  · have keep : ∀ {es : List (List AV)} {x : AV}, Built H' lo 1 (.sl .nil 0 []) es x → Built (H'.set o (.blk (cs.set c (.ms N 0 (l.length + 1) 1)))) lo 1 (.sl .nil 0 []) es x := fun hb => hb.keep fun j hj => by
      have := h.olo
      simp only [AHeap.set]; rw [if_neg (by omega)]
    rw [List.getElem?_set] at h1 h2
    by_cases hcc : c = c'
    · subst hcc
      rw [if_pos rfl, if_pos hcw] at h1
      rw [if_pos rfl, if_pos hcl] at h2
      cases h1; cases h2
      rw [intCells_app]
      exact keep hB'
    · rw [if_neg hcc] at h1 h2
      have hb := h.row c' l' a' h1 h2
      refine keep ?_
      obtain ⟨b1, b2⟩ := hb
      refine ⟨b1, b2.imp id ?_⟩
      rintro ⟨hne, i, hi, rfl, hHi⟩
      refine ⟨hne, i, hi, rfl, ?_⟩
      rw [hold i (by have := hF.lt hHi; omega) fun n he => ?_]
      · exact hHi
      · rw [he] at ha
        exact hcc (h.apart c c' i n _ ha h2)
  · rw [List.getElem?_set] at h1 h2
    have hnoN : ∀ (c' n : Nat), cs[c']? ≠ some (.ms N 0 n 1) := fun c' n he => by
      have hcl' : c' < w.length := by rw [← h.len]; exact (List.getElem?_eq_some_iff.1 he).1
      have hb := h.row c' w[c'] _ (List.getElem?_eq_getElem hcl') he
      obtain ⟨_, ⟨_, h2, _⟩ | ⟨_, i, _, h2, h3⟩⟩ := hb
      · cases h2
      · cases h2; have := hF.lt h3; omega
    by_cases e1 : c = c1
    · by_cases e2 : c = c2
      · exact e1.symm.trans e2
      · subst e1
        rw [if_pos rfl, if_pos hcl] at h1
        rw [if_neg e2] at h2
        cases h1
        exact absurd h2 (hnoN _ _)
    · by_cases e2 : c = c2
      · subst e2
        rw [if_neg e1] at h1
        rw [if_pos rfl, if_pos hcl] at h2
        cases h2
        exact absurd h1 (hnoN _ _)
      · rw [if_neg e1] at h1
        rw [if_neg e2] at h2
        exact h.apart c1 c2 id n n' h1 h2

/-- What the rows read as when nobody writes them any more. -/
def rowsV (w : List (List Int)) : List (List AV) := w.map fun l => [bsl (.sl .nil 0 []) 1 (intCells l)]
theorem rowsV_len (w : List (List Int)) : (rowsV w).length = w.length := by simp [rowsV]

theorem rowsV_flat (w : List (List Int)) : (w.map fun l => bsl (.sl .nil 0 []) 1 (intCells l)) = (rowsV w).flatten := by
  induction w with
  | nil => rfl
  | cons a w ih => simp only [rowsV, List.map_cons, List.flatten_cons] at ih ⊢; rw [ih]; rfl

theorem RowsAt.view (h : RowsAt H lo o w cs) : View H (.ms o 0 w.length 1) (.sl .any 1 (rowsV w)) := by
  have hv : ViewL H cs (w.map fun l => bsl (.sl .nil 0 []) 1 (intCells l)) := by
    refine ⟨by simp [h.len], fun i a b ha hb => ?_⟩
    rw [List.getElem?_map, Option.map_eq_some_iff] at hb
    obtain ⟨l, hl, rfl⟩ := hb
    exact (h.row i l a hl ha).view (intCells_free l)
  have := View.ms' (H := H) (sz := 1) (len := w.length) h.at_ (by rw [h.len]; omega) hv
  have hch : chunks 1 w.length (w.map fun l => bsl (.sl .nil 0 []) 1 (intCells l)) = rowsV w := by
    have := chunks_flatten (sz := 1) (es := rowsV w) (fun x hx => by
      obtain ⟨l, _, rfl⟩ := List.mem_map.1 hx; rfl)
    rw [rowsV_len] at this
    rw [← this]
    congr 1
    exact rowsV_flat w
  rw [hch] at this
  exact this
end
end Go.Fw

/- Framework, part 27: iterators that write a box of their own while they hand out. -/
namespace Go.Fw
set_option linter.unusedSimpArgs false
set_option linter.unusedVariables false
open Go
set_option linter.unusedSectionVars false
variable [Globals]

section
variable {P : Program}

/-- An iterator that hands out these, and that has one object of its own. -/
def SeqO (P : Program) (f : FuncId) (capt : List AV) (o0 : Nat) (c0 : AObj) (xs : List (List AV)) : Prop :=
  goodFn P f = true ∧ ∀ (y N : Nat) (H : AHeap) (J : Nat → AHeap → Prop) (Kx : AHeap → Prop), H o0 = some c0 → (∀ i H c, J i H → J i (H.set o0 c)) → J 0 H →
    (∀ i x H1 N1 c, xs[i]? = some x → N ≤ N1 → J i H1 → H1 o0 = some c → YCall P y x H1 N1 (fun r H2 _ => (r = .lit (.bool true) ∧ J (i + 1) H2 ∧ H2 o0 = some c) ∨ (r = .lit (.bool false) ∧ Kx H2))) →
    ACall P f (.yl y :: capt) H N (fun _ H' N' => N ≤ N' ∧ (J xs.length H' ∨ Kx H'))

/-- A loop over such an iterator: its rounds leave its object alone. -/
theorem range_seqO {f : FuncId} {capt : List AV} {o0 : Nat} {c0 : AObj} {xs : List (List AV)} (hs : SeqO P f capt o0 c0 xs) {ps : List Nat} {asg body : ACode} {fs : List Fr} {Q : Post} {A : Nat → AV} {H : AHeap} {N : Nat} (J : Nat → AHeap → Prop) (Kx : AExit → AHeap → Prop)
    (hps : ∀ x ∈ xs, x.length = ps.length) (hF : Fresh H N) (ho : H o0 = some c0) (hJo : ∀ i H c, J i H → J i (H.set o0 c)) (h0 : J 0 H)
    (hbody : ∀ (o ob : AObj) (i : Nat) (x : List AV) (G : AHeap) (N1 : Nat) (c : AObj), xs[i]? = some x → N < N1 → Fresh G N1 → G N = none → J i G → G o0 = some c → run P asg [] (asgQ P N o ob body (fun G' => J (i + 1) G' ∧ G' o0 = some c) Kx) ⟨putL A ps x, G.set N o, N1⟩)
    (hdone : ∀ (H2 : AHeap) (N2 : Nat), N ≤ N2 → J xs.length H2 → onward P fs Q .normal ⟨A, H2, N2⟩)
    (hexit : ∀ (x : AExit) (H2 : AHeap) (N2 : Nat), x ≠ .normal → N ≤ N2 → Kx x H2 → onward P fs Q x ⟨A, H2, N2⟩) : rangeK P (.fn (.func f) [] capt) ps asg body fs Q ⟨A, H, N⟩ := by
  intro o ob od hround
  have hlt : o0 < N := hF.lt ho
  have hne : o0 ≠ N := by omega
  have hdel : (H.set N o).del N = H := by rw [set_del, del_none (hF N (Nat.le_refl N))]
  refine (hs.2 N (N + 1) (H.set N o) (fun i G => G N = some o ∧ J i (G.del N)) (fun G => ∃ x : AExit, x ≠ .normal ∧ G N = some (od x) ∧ Kx x (G.del N))
    (by simp [AHeap.set, hne, ho]) (fun i G c ⟨h1, h2⟩ => ⟨by simp [AHeap.set, Ne.symm hne, h1], by rw [del_set_ne hne]; exact hJo i _ c h2⟩) ⟨by simp [AHeap.set], by rw [hdel]; exact h0⟩ ?_).mono ?_
  · rintro i x H1 N1 c hx hN1 ⟨h1, hJ⟩ hc
    refine YCall.fresh fun hF1 => ?_
    refine hround x H1 N1 _ h1 (by rw [hps x (List.mem_of_getElem? hx)]) ?_
    have hG : (H1.del N).set N o = H1 := by
      funext id
      simp only [AHeap.set, AHeap.del]
      split
      · rename_i hi; rw [hi, h1]
      · rfl
    have hb := hbody o ob i x (H1.del N) N1 c hx hN1 (fun j hj => by simp only [AHeap.del]; split; rfl; exact hF1 j hj) (by simp [AHeap.del]) hJ (by simp [AHeap.del, hne, hc])
    rw [hG] at hb
    refine run_mono hb ?_
    rintro y s ⟨rfl, hso, hb⟩
    refine ⟨rfl, hso, ?_⟩
    refine run_mono hb ?_
    rintro y s2 ⟨k1, k4⟩
    refine ⟨k1, ?_⟩
    cases y with
    | normal =>
      obtain ⟨k5, k6⟩ := k4
      exact .inl ⟨rfl, ⟨by simp [AHeap.set], by rw [set_del]; exact k5⟩, by simp [AHeap.del, hne] at k6; simp [AHeap.set, hne, k6]⟩
    | exit i => exact .inr ⟨rfl, .exit i, by simp, by simp [AHeap.set], by rw [set_del]; exact k4⟩
    | ret => exact .inr ⟨rfl, .ret, by simp, by simp [AHeap.set], by rw [set_del]; exact k4⟩
  · rintro r H' N' ⟨hN', ⟨h1, h2⟩ | ⟨x, hx, h1, h2⟩⟩
    · exact .inl ⟨h1, hdone _ _ (by omega) h2⟩
    · exact .inr ⟨x, hx, h1, hexit x _ _ hx (by omega) h2⟩

end
attribute [simp] nilOf
end Go.Fw

/- Framework, part 28: what a call's arguments hold may be told as values that nobody writes any more. -/
namespace Go.Fw
set_option linter.unusedSimpArgs false
set_option linter.unusedVariables false
open Go
set_option linter.unusedSectionVars false
variable [Globals]

theorem ext_still {e : Env} {H : AHeap} : Ext e (e.still H e.ρ e.N) :=
  ⟨fun _ h => .inl h, fun _ _ => rfl, fun _ _ => rfl, Nat.le_refl _, fun _ c _ fz h => ⟨c, fz, h, rfl⟩⟩

theorem hrep_still {e : Env} {H K F : AHeap} (hH : HRep e H) (hK : ∀ id o, K id = some o → H id = some o) (hF : ∀ id o, F id = some o → H id = some o) (hd : ∀ id o, K id = some o → F id = none) : HRep (e.still F e.ρ e.N) K where
  at_ := fun id o ho => by
    obtain ⟨h1, h2, h3⟩ := hH.at_ id o (hK id o ho)
    refine ⟨h1, ?_, h3.ext ext_still rfl⟩
    rintro (h4 | ⟨j, oj, h5, h6⟩)
    · exact h2 h4
    · have : j = id := hH.inj j id oj o (hF j oj h5) (hK id o ho) h6
      subst this
      rw [hd j o ho] at h5
      cases h5
  inj := fun i j o o' hi hj hij => hH.inj i j o o' (hK i o hi) (hK j o' hj) hij
  imm := fun b hb => by
    rcases hb with h | ⟨j, oj, h5, h6⟩
    · exact hH.imm b h
    · rw [← h6]; exact (hH.at_ j oj (hF j oj h5)).2.2.lt
  gl := hH.gl.ext ext_still

section
variable {P : Program}

/-- A part of the heap is written no more: the call sees it as values. -/
theorem ACall.freeze {f : FuncId} {args args' : List AV} {H K F : AHeap} {N : Nat} {Q : AV → AHeap → Nat → Prop} (h : ACall P f args' K N Q)
    (hK : ∀ id o, K id = some o → H id = some o) (hF : ∀ id o, F id = some o → H id = some o) (hd : ∀ id o, K id = some o → F id = none)
    (hl : args.length = args'.length) (hv : ∀ (i : Nat) (a b : AV), args[i]? = some a → args'[i]? = some b → a = b ∨ View F a b) : ACall P f args H N Q := by
  refine ⟨h.1, fun e vs hH hN hvl hr => ?_⟩
  have hHF : HRep e F := hrep_sub hH hF
  have hK' := hrep_still hH hK hF hd
  refine (h.2 (e.still F e.ρ e.N) vs hK' hN (hvl.trans hl) (fun i c v hc hv' => ?_)).mono ?_
  · have hi : i < args'.length := (List.getElem?_eq_some_iff.1 hc).1
    have ha : args[i]? = some (args[i]'(by omega)) := by simp [show i < args.length by omega]
    have hrep := hr i _ v ha hv'
    rcases hv i _ c ha hc with h1 | h1
    · rw [← h1]; exact hrep.ext ext_still
    · exact h1.rep hHF hrep _ _
  · rintro x w' ⟨v, e2, r, H2, rfl, rfl, hQ, hrep, hH2, htr⟩
    have own : ∀ b, Own (e.still F e.ρ e.N) K b → Own e H b := fun b ⟨id, o, h1, h2⟩ => ⟨id, o, hK id o h1, h2⟩
    refine ⟨v, e2, r, H2, rfl, rfl, hQ, hrep, hH2, ext_still.trans htr.ext, fun b hb hn => htr.fr b hb (fun ho => hn (own b ho)), fun b hb => (htr.own b hb).imp (own b) (fun h => h), fun b hb => ?_, htr.size, htr.os, htr.tape, htr.output⟩
    rcases htr.im b hb with h1 | h1 | h1
    · rcases h1 with h1 | ⟨id, o, h1, h2⟩
      · exact .inl h1
      · exact .inr (.inl ⟨id, o, hF id o h1, h2⟩)
    · exact .inr (.inl (own b h1))
    · exact .inr (.inr h1)

/-- All of the heap is written no more. -/
theorem ACall.still {f : FuncId} {args args' : List AV} {H : AHeap} {N : Nat} {Q : AV → AHeap → Nat → Prop} (h : ACall P f args' noHeap N Q)
    (hl : args.length = args'.length) (hv : ∀ (i : Nat) (a b : AV), args[i]? = some a → args'[i]? = some b → a = b ∨ View H a b) : ACall P f args H N Q :=
  h.freeze (fun id o ho => by cases ho) (fun _ _ h => h) (fun id o ho => by cases ho) hl hv

end
end Go.Fw

/- Framework, part 29: contracts that tell a row's cells in place, as calls over the abstract heap. -/
namespace Go.Fw
set_option linter.unusedSimpArgs false
set_option linter.unusedVariables false
open Go
set_option linter.unusedSectionVars false
variable [Globals]

/-- A row's cells written in place, with new blocks behind, that belong to nobody. -/
def Env.wrote (e : Env) (b base q : Nat) (zs : List Int) (os : Array Obj) : Env := { e with w := Sort.grow (Sort.putRow (Value.int .i64) (Sort.ahead e.w q) b base zs.toArray) os }

theorem holds_of {e : Env} {H : AHeap} (hH : HRep e H) {id : Nat} {zs : List Int} (hid : H id = some (.blk (zs.map i64))) : Sort.Holds (Value.int .i64) e.w (e.ρ id).1 (e.ρ id).2 zs.toArray := by
  obtain ⟨_, _, c, t, h1, h2, h3⟩ := hH.at_ id _ hid
  intro j hj
  have hjl : j < zs.length := by simpa using hj
  obtain ⟨u, h4, h5, h6⟩ := h3 j (i64 zs[j]) (by simp [hjl])
  have hu : u = .int .i64 zs[j] := by cases h6; rfl
  subst hu
  refine ⟨?_, ?_⟩
  · simp only [World.cell?, h1]
    rw [h4]
    simp [hjl]
  · simp [World.frozen?, h1]

theorem wrote_ok {e : Env} {H : AHeap} (hH : HRep e H) {id : Nat} {cs : List AV} {zs : List Int} (hid : H id = some (.blk cs)) (hl : zs.length = cs.length) (q : Nat) (os : Array Obj) :
    HRep (e.wrote (e.ρ id).1 (e.ρ id).2 q zs os) (H.set id (.blk (zs.map i64))) ∧ Tr e H (e.wrote (e.ρ id).1 (e.ρ id).2 q zs os) (H.set id (.blk (zs.map i64))) ∧
      ∃ (c : Array Value) (t : TypeId), e.w.heap[(e.ρ id).1]? = some (.cells c t (0, 0)) ∧ (e.ρ id).2 + cs.length ≤ c.size ∧ Ext e (e.wrote (e.ρ id).1 (e.ρ id).2 q zs os) := by
  obtain ⟨h0, hI, c, t, h1, h2, h3⟩ := hH.at_ id _ hid
  obtain ⟨c', hc'⟩ : ∃ c', c' = Sort.putCells (Value.int .i64) (e.ρ id).2 zs.toArray c := ⟨_, rfl⟩
  have hsz : c'.size = c.size := by rw [hc']; simp [Sort.putCells]
  have hat : ∀ j (h : j < zs.length), c'[(e.ρ id).2 + j]? = some (.int .i64 zs[j]) := fun j hj => by
    have hlt : (e.ρ id).2 + j < c.size := by omega
    rw [hc']
    unfold Sort.putCells
    rw [Array.getElem?_mapIdx, Array.getElem?_eq_getElem hlt, Option.map_some]
    have hcond : (e.ρ id).2 ≤ (e.ρ id).2 + j ∧ (e.ρ id).2 + j < (e.ρ id).2 + zs.toArray.size := ⟨by omega, by simpa using hj⟩
    rw [if_pos hcond]
    simp [hj]
  have hob : ORep (e.setRow (e.ρ id).1 c') (e.ρ id).1 (e.ρ id).2 (.blk (zs.map i64)) := by
    refine ⟨c', t, setRow_heap _ _ _ _ _ _ h1, by simp; omega, fun j a ha => ?_⟩
    have hj : j < zs.length := by have := (List.getElem?_eq_some_iff.1 ha).1; simpa using this
    refine ⟨.int .i64 zs[j], hat j hj, rfl, ?_⟩
    simp [hj] at ha
    rw [← ha]
    exact .lit _
  have hH1 := hrep_setRow hH hid h1 hsz hob
  have t1 := tr_setRow hH (.blk (zs.map i64)) hid h1 hsz
  have hlt := lt_of_heap h1
  have hp : PTr (e.setRow (e.ρ id).1 c') (e.wrote (e.ρ id).1 (e.ρ id).2 q zs os) := by
    have hsize : (e.setRow (e.ρ id).1 c').w.heap.size = e.w.heap.size := setRow_size _ _ _
    refine ⟨rfl, rfl, fun b hb => ?_, fun b hb => hb, fun b hb => .inl hb, ?_, rfl, rfl, rfl⟩
    · rw [hsize] at hb
      show ((e.w.heap.modify (e.ρ id).1 (Sort.onCells _)) ++ os)[b]? = _
      rw [Array.getElem?_append_left (by simpa using hb), Array.getElem?_modify]
      by_cases hbe : (e.ρ id).1 = b
      · subst hbe
        rw [if_pos rfl, h1]
        show some (Obj.cells (Sort.putCells _ _ _ c) t (0, 0)) = _
        rw [← hc']
        exact (setRow_heap _ _ _ _ _ _ h1).symm
      · rw [if_neg hbe]
        exact (setRow_other _ _ _ _ (fun h => hbe h.symm)).symm
    · rw [hsize]
      show e.w.heap.size ≤ ((e.w.heap.modify (e.ρ id).1 (Sort.onCells _)) ++ os).size
      simp
  exact ⟨hp.hrep hH1, t1.trans (hp.tr hH1), c, t, h1, h2, t1.ext.trans (hp.ext hH1.imm)⟩

section
variable {P : Program} {f : FuncId}

theorem ms_arg {e : Env} {id n : Nat} {v : Value} (h : Rep e (.ms id 0 n 1) v) (h0 : 0 < n) : ∃ cap, v = .slice (some ⟨(e.ρ id).1, (e.ρ id).2, none⟩) n cap ∧ n ≤ cap ∧ id < e.N ∧ ∃ (c : Array Value) (t : TypeId) (fz : Nat × Nat), e.w.heap[(e.ρ id).1]? = some (.cells c t fz) ∧ (e.ρ id).2 + cap ≤ c.size := by
  cases h with
  | ms h hl hroom hsp =>
    rename_i cap ad
    rcases hroom with h1 | ⟨h1, c, t, fz, h2, h3⟩
    · omega
    · subst h1
      exact ⟨cap, by simp, hl, h, c, t, fz, h2, by omega⟩

/-- The sort, out of its contract. -/
theorem sort_acall (hg : goodFn P f = true) (hS : ∀ (blk off cap : Nat) (zs : List Int) (w : World), Sort.Holds (Value.int .i64) w blk off zs.toArray → blk < w.heap.size → zs.length < 4611686018427387904 →
      Calls P f #[.slice (some ⟨blk, off, none⟩) zs.length cap] w fun e w' => e = .returned (.tuple #[]) ∧ ∃ n os, w' = Sort.grow (Sort.putRow (Value.int .i64) (Sort.ahead w n) blk off (zs.mergeSort fun x y => decide (x ≤ y)).toArray) os)
    {H : AHeap} {N id : Nat} {l : List Int} (hH : H id = some (.blk (l.map i64))) (h0 : 0 < l.length) (hl : l.length ≤ 1000000000) :
    ACall P f [.ms id 0 l.length 1] H N (fun r H' N' => r = .tup [] ∧ H' = H.set id (.blk ((l.mergeSort fun x y => decide (x ≤ y)).map i64)) ∧ N' = N) := by
  refine ⟨hg, fun e vs hE hN hvl hr => ?_⟩
  match vs, hvl with
  | [v], _ =>
    obtain ⟨cap, rfl, _, _, _⟩ := ms_arg (hr 0 _ v rfl rfl) h0
    have hid := hE.at_ id _ hH
    refine (hS _ _ cap l e.w (holds_of hE hH) hid.2.2.lt (by omega)).mono ?_
    rintro x w' ⟨rfl, q, os, rfl⟩
    obtain ⟨k1, k2, _⟩ := wrote_ok hE hH (zs := l.mergeSort fun x y => decide (x ≤ y)) (by simp) q os
    exact ⟨_, e.wrote (e.ρ id).1 (e.ρ id).2 q (l.mergeSort fun x y => decide (x ≤ y)) os, .tup [], _, rfl, rfl, ⟨rfl, rfl, hN⟩, .tup (vs := []) rfl (fun i c v h => by simp at h), k1, k2⟩

theorem compact_len (l : List Int) : (Lib.compact l).length ≤ l.length := by
  unfold Lib.compact Lib.compactUpTo
  rw [List.length_map]
  have := List.length_filter_le (Lib.keeps l.toArray) (List.range l.length)
  simpa using this

/-- 'Compact', out of its contract. -/
theorem compact_acall (hg : goodFn P f = true) (hS : ∀ (blk off cap : Nat) (zs : List Int) (w : World), Sort.Holds (Value.int .i64) w blk off zs.toArray → zs.length ≤ 9223372036854775807 → zs.length ≤ cap →
      Calls P f #[.slice (some ⟨blk, off, none⟩) zs.length cap] w fun e w' => e = .returned (.slice (some ⟨blk, off, none⟩) (Lib.compact zs).length cap) ∧ ∃ q, w' = Sort.putRow (Value.int .i64) (Sort.ahead w q) blk off (Lib.compact zs ++ List.replicate (zs.length - (Lib.compact zs).length) 0).toArray)
    {H : AHeap} {N id : Nat} {l : List Int} (hH : H id = some (.blk (l.map i64))) (h0 : 0 < l.length) (hl : l.length ≤ 1000000000) :
    ACall P f [.ms id 0 l.length 1] H N (fun r H' N' => r = .ms id 0 (Lib.compact l).length 1 ∧ H' = H.set id (.blk ((Lib.compact l ++ List.replicate (l.length - (Lib.compact l).length) 0).map i64)) ∧ N' = N) := by
  refine ⟨hg, fun e vs hE hN hvl hr => ?_⟩
  match vs, hvl with
  | [v], _ =>
    obtain ⟨cap, rfl, hcap, hidN, c, t, fz, hc1, hc2⟩ := ms_arg (hr 0 _ v rfl rfl) h0
    have hid := hE.at_ id _ hH
    have hcl := compact_len l
    refine (hS _ _ cap l e.w (holds_of hE hH) (by omega) hcap).mono ?_
    rintro x w' ⟨rfl, q, rfl⟩
    obtain ⟨k1, k2, c2, t2, h1, h2, hx⟩ := wrote_ok hE hH (zs := Lib.compact l ++ List.replicate (l.length - (Lib.compact l).length) 0) (by simp; omega) q #[]
    have hw : (e.wrote (e.ρ id).1 (e.ρ id).2 q (Lib.compact l ++ List.replicate (l.length - (Lib.compact l).length) 0) #[]).w = Sort.putRow (Value.int .i64) (Sort.ahead e.w q) (e.ρ id).1 (e.ρ id).2 (Lib.compact l ++ List.replicate (l.length - (Lib.compact l).length) 0).toArray := by
      simp [Env.wrote]
    obtain ⟨c3, fz3, h4, h5⟩ := hx.shape _ _ _ _ hc1
    refine ⟨_, e.wrote (e.ρ id).1 (e.ρ id).2 q (Lib.compact l ++ List.replicate (l.length - (Lib.compact l).length) 0) #[], .ms id 0 (Lib.compact l).length 1, _, rfl, hw, ⟨rfl, rfl, hN⟩, ?_, k1, k2⟩
    exact .ms (e := e.wrote (e.ρ id).1 (e.ρ id).2 q (Lib.compact l ++ List.replicate (l.length - (Lib.compact l).length) 0) #[]) (id := id) (off := 0) (cap := cap) (ad := ⟨(e.ρ id).1, (e.ρ id).2, none⟩) hidN (by omega) (.inr ⟨rfl, c3, t, fz3, h4, by rw [h5]; show (e.ρ id).2 + 0 + cap * 1 ≤ c.size; omega⟩) rfl

/-- A call whose answer is its argument, which nobody looks at. -/
theorem nil_acall (hg : goodFn P f = true) {r : Value → Value} {ra : AV → AV} (hS : ∀ (w : World), Calls P f #[.slice none 0 0] w fun e w' => e = .returned (r (.slice none 0 0)) ∧ ∃ q, w' = Sort.ahead w q) {k z : Nat}
    (hr : ∀ e : Env, Rep e (ra (.sl .nil z [])) (r (.slice none 0 0))) : PCall P f [.sl .nil z []] (ra (.sl .nil z [])) := by
  refine ⟨hg, fun e vs hi hvl hv => ?_⟩
  match vs, hvl with
  | [v], _ =>
    have h := hv 0 _ v rfl rfl
    have hvn : v = .slice none 0 0 := by
      rcases rep_sl_inv h with ⟨_, _, rfl⟩ | ⟨h0, _⟩ | ⟨h0, _⟩
      · rfl
      · exact absurd rfl h0
      · exact absurd rfl h0
    subst hvn
    refine (hS e.w).mono ?_
    rintro x w' ⟨rfl, q, rfl⟩
    exact ⟨_, { e with w := Sort.ahead e.w q }, rfl, rfl, hr _, rfl, rfl, fun _ _ => rfl, fun _ h => h, fun _ h => .inl h, Nat.le_refl _, rfl, rfl, rfl⟩

end
end Go.Fw

/- Framework, part 30: how large what is handed over can be. -/
namespace Go.Fw
set_option linter.unusedSimpArgs false
set_option linter.unusedVariables false
open Go Go.RowKit Go.ChangeAt Go.ChangeShapes Go.WideShapes
set_option linter.unusedSectionVars false
variable [Globals]

section
variable {P : Program} {H : Type} {enc : TypeId × Value → H}

/-- Slices are as long as they are told to be. -/
def Wd (P : Program) : Nat → TypeId → List AV → DataW H → Prop
  | 0, _, _, _ => False
  | n + 1, t, as, d => match P.underlying t with
    | some (.slice e) => (∃ kd z, as = [.sl kd z []]) ∨ ∃ kd z es elems spare, as = [.sl kd z es] ∧ d = .slice elems spare ∧ es.length = elems.length ∧ ∀ (i : Nat) (x : List AV) (y : DataW H), es[i]? = some x → elems[i]? = some y → Wd P n e x y
    | _ => True

/-- What a reading met, as abstract cells, as large as it is told. -/
theorem trod_repD {S : List TypeId} (hS : closedB P S = true) {w : World} : ∀ (fuel : Nat) (t : TypeId) (cs : List Value) (x : DataW H × List MemPlace), t ∈ S →
    DataW.trod enc P w 0 (fun _ => true) true fuel t cs = some x → ∃ as, RelC (Env.start w) as cs ∧ Lays P fuel t as ∧ Wd P fuel t as x.1
  | 0, t, cs, x, _, h => by simp [DataW.trod] at h
  | fuel + 1, t, cs, x, ht, h => by
    have ih := trod_repD hS (w := w) fuel
    by_cases hsl : ∃ e, P.underlying t = some (.slice e)
    rotate_left
    · obtain ⟨as, h1, h2⟩ := trod_rep hS (fuel + 1) t cs x ht h
      refine ⟨as, h1, h2, ?_⟩
      unfold Wd
      split
      · rename_i e he; exact absurd ⟨e, he⟩ hsl
      · trivial
    obtain ⟨e, hu⟩ := hsl
    have one : ∀ (a : AV) (v : Value), v.oneCell' = true → Rep (Env.start w) a v → RelC (Env.start w) [a] [v] := fun a v h1 h2 =>
      ⟨rfl, fun i b u hb hu => by
        cases i with
        | zero => simp at hb hu; subst hb; subst hu; exact ⟨h1, h2⟩
        | succ i => simp at hb⟩
    have hc := List.all_eq_true.1 hS t ht
    unfold DataW.trod at h
    rw [hu] at hc h
    simp only [Bool.and_eq_true, List.contains_iff_mem, decide_eq_true_eq] at hc
    obtain ⟨he, hpos⟩ := hc
    split at h
    case h_7 e' he' =>
      exact ⟨[.sl .nil (P.cellsOf e) []], one _ _ rfl (.slNil _), by simp only [Lays, hu]; exact ⟨.nil, [], rfl, .inl ⟨rfl, rfl⟩, by simp, by simp⟩, by simp only [Wd, hu]; exact .inl ⟨_, _, rfl⟩⟩
    case h_8 e' a len cap he' =>
          cases he'
          simp only at h
          split at h
          · rename_i hcond
            obtain ⟨_, hlc, hcm⟩ := hcond
            obtain ⟨elems, hel, h⟩ := Option.bind_eq_some_iff.1 h
            simp only [if_true, Option.map_eq_some_iff] at h
            obtain ⟨rest, hrest, hxx⟩ := h
            have hA := mapM_range hel
            have hB := mapM_range hrest
            -- the elements
            obtain ⟨es, hesl, hes⟩ := choose_list (Q := fun i as => ∃ us y, w.cells? 0 (a.add (i * P.cellsOf e)) (P.cellsOf e) = some us ∧ RelC (Env.start w) as us ∧ Lays P fuel e as ∧ elems[i]? = some y ∧ Wd P fuel e as y.1) len (fun i hi => by
              obtain ⟨y, hy, hyi⟩ := hA i hi
              obtain ⟨us, h1, h2⟩ := Option.bind_eq_some_iff.1 hy
              obtain ⟨as, h3, h4, h5⟩ := ih e us y he h2
              exact ⟨as, us, y, h1, h3, h4, hyi, h5⟩)
            have hell : elems.length = len := by
              obtain ⟨h1, _⟩ := mapM_get hel
              simpa using h1
            have hspot : 0 < cap → a.spot = none ∧ a.block < w.heap.size := fun h0 => by
              have : ∃ us, w.cells? 0 (a.add (0 * P.cellsOf e)) (P.cellsOf e) = some us := by
                by_cases hl : 0 < len
                · obtain ⟨y, hy, _⟩ := hA 0 hl
                  obtain ⟨us, h1, _⟩ := Option.bind_eq_some_iff.1 hy
                  exact ⟨us, h1⟩
                · obtain ⟨y, hy, _⟩ := hB 0 (by omega)
                  obtain ⟨us, h1, _⟩ := Option.bind_eq_some_iff.1 hy
                  exact ⟨us, by rw [show len + 0 = 0 by omega] at h1; exact h1⟩
              obtain ⟨us, h1⟩ := this
              obtain ⟨h2, h3⟩ := cells?_spec h1
              have h4 := h3 0 (us[0]'(by omega)) (by simp)
              rw [show a.add (0 * P.cellsOf e) = a by simp [Addr.add], show a.add 0 = a by simp [Addr.add]] at h4
              have := lt_of_cell h4
              exact ⟨this.2, this.1⟩
            have hlay : Lays P (fuel + 1) t [.sl .any (P.cellsOf e) es] := by
              simp only [Lays, hu]
              refine ⟨.any, es, rfl, .inr rfl, by omega, fun x hx => ?_⟩
              obtain ⟨i, hi, rfl⟩ := List.getElem_of_mem hx
              obtain ⟨us, _, _, _, h4, _⟩ := hes i es[i] (by simp [hi])
              exact h4
            have hwd : Wd P (fuel + 1) t [.sl .any (P.cellsOf e) es] x.1 := by
              simp only [Wd, hu]
              refine .inr ⟨_, _, es, elems.map (·.1), rest.map (·.1), rfl, by rw [← hxx], by simp [hesl, hell], fun i x y hx hy => ?_⟩
              obtain ⟨_, y', _, _, _, h4, h5⟩ := hes i x hx
              rw [List.getElem?_map, h4] at hy
              cases hy
              exact h5
            refine ⟨[.sl .any (P.cellsOf e) es], one _ _ rfl ?_, hlay, hwd⟩
            by_cases h0 : cap = 0
            · have hl0 : len = 0 := by omega
              have : es = [] := List.eq_nil_of_length_eq_zero (by omega)
              subst this; subst h0; subst hl0
              exact .slE (by simp)
            · obtain ⟨hsp, hblk⟩ := hspot (by omega)
              obtain ⟨b, o, s⟩ := a
              simp only at hsp hblk
              subst hsp
              have hrep := rep_sl_intro (e := Env.start w) (k := .any) (sz := P.cellsOf e) (es := es) (b := b) (o := o) (cap := cap) (by simp) (fun _ => hblk) (by omega) (by simp)
                (fun x hx => by
                  obtain ⟨i, hi, rfl⟩ := List.getElem_of_mem hx
                  obtain ⟨us, _, h1, h2, _⟩ := hes i es[i] (by simp [hi])
                  rw [← h2.1, (cells?_spec h1).1])
                (fun i x hx j c hj => by
                  obtain ⟨us, _, h1, h2, _⟩ := hes i x hx
                  have hjl : j < us.length := by have := (List.getElem?_eq_some_iff.1 hj).1; rw [h2.1]; exact this
                  obtain ⟨h3, h4⟩ := h2.2 j c us[j] hj (by simp [hjl])
                  have h5 := (cells?_spec h1).2 j us[j] (by simp [hjl])
                  rw [addr_add, addr_add] at h5
                  exact ⟨us[j], h5, h3, h4⟩)
              rw [hesl] at hrep
              exact hrep
          · cases h
    all_goals first | (rename_i he _; cases he; done) | (rename_i he _ _; cases he; done) | (cases h; done) | (simp_all; done)

/-- An argument, and how large it is. -/
def ArgR (P : Program) (t : TypeId) (a : AV) : Prop := Arg P t a ∧ ∀ e, P.underlying t = some (.slice e) → ∃ (K : Type) (d : DataW K) (n : Nat), Wd P (n + 1) t [a] d ∧ (d.weights P t).all (· ≤ reachBytes) = true

theorem arg_avR {S : List TypeId} (hS : closedB P S = true) {w : World} {base : Nat} {t : TypeId} {v : Value} {d : DataW H} {ps : List MemPlace} (ht : t ∈ S)
    (hok : Value.okWide P w .any base t v) (h : DataW.Trod enc P w 0 (fun _ => true) true t v d ps) (hw : (d.weights P t).all (· ≤ reachBytes) = true) : ∃ a, Rep (Env.start w) a v ∧ ArgR P t a := by
  by_cases hsl : ∃ e, P.underlying t = some (.slice e)
  rotate_left
  · obtain ⟨a, h1, h2⟩ := arg_av hS ht hok h
    exact ⟨a, h1, h2, fun e he => absurd ⟨e, he⟩ hsl⟩
  obtain ⟨e, hu⟩ := hsl
  obtain ⟨fuel, h⟩ := h
  obtain ⟨as, h1, h2, h3⟩ := trod_repD hS fuel t _ _ ht h
  cases fuel with
  | zero => exact h2.elim
  | succ n =>
    have h2' := h2
    simp only [Lays, hu] at h2'
    obtain ⟨kd, es, rfl, _⟩ := h2'
    have hv : v.cells = #[v] := by
      cases v <;> first | rfl | (simp [Value.okWide, hu, Cell.okWide, Cell.ok] at hok; done)
    rw [hv] at h1
    refine ⟨_, (h1.2 0 _ v (by simp) (by simp)).2, ⟨_, n + 1, h2, ?_⟩, fun e' _ => ⟨H, d, n, h3, hw⟩⟩
    simp [hu]

theorem args_avR {S : List TypeId} (hS : closedB P S = true) {w : World} {base : Nat} : ∀ (ts : List TypeId) (vs : List Value) (ds : List (DataW H)) (ps : List MemPlace), (∀ t ∈ ts, t ∈ S) →
    (∀ (j : Nat) (t : TypeId) (v : Value), ts[j]? = some t → vs[j]? = some v → Value.okWide P w .any base t v) → DataW.TrodAll enc P w 0 (fun _ => true) true ts vs ds ps → (DataW.weightsEach P ts ds).all (· ≤ reachBytes) = true →
    ∃ as : List AV, vs.length = as.length ∧ as.length = ts.length ∧ (∀ (i : Nat) (c : AV) (v : Value), as[i]? = some c → vs[i]? = some v → Rep (Env.start w) c v) ∧ ∀ (i : Nat) (t : TypeId) (a : AV), ts[i]? = some t → as[i]? = some a → ArgR P t a
  | [], [], [], _, _, _, _, _ => ⟨[], rfl, rfl, fun i c v hc => by simp at hc, fun i t a hc => by simp at hc⟩
  | t :: ts, v :: vs, d :: ds, ps, hin, hok, h, hw => by
    obtain ⟨p, q, h1, h2, rfl⟩ := h
    rw [DataW.weightsEach, List.all_append, Bool.and_eq_true] at hw
    obtain ⟨a, g1, g2⟩ := arg_avR hS (hin t (by simp)) (hok 0 t v rfl rfl) h1 hw.1
    obtain ⟨as, k1, k2, k3, k4⟩ := args_avR hS ts vs ds q (fun t ht => hin t (by simp [ht])) (fun j t v hj hv => hok (j + 1) t v (by simpa using hj) (by simpa using hv)) h2 hw.2
    refine ⟨a :: as, by simp [k1], by simp [k2], fun i c u hc hu => ?_, fun i t' b ht hb => ?_⟩
    · cases i with
      | zero => simp at hc hu; subst hc; subst hu; exact g1
      | succ i => exact k3 i c u (by simpa using hc) (by simpa using hu)
    · cases i with
      | zero => simp at ht hb; subst ht; subst hb; exact g2
      | succ i => exact k4 i t' b (by simpa using ht) (by simpa using hb)
  | [], _ :: _, _, _, _, _, h, _ => h.elim
  | [], [], _ :: _, _, _, _, h, _ => h.elim
  | _ :: _, [], _, _, _, _, h, _ => h.elim
  | _ :: _, _ :: _, [], _, _, _, h, _ => h.elim

theorem weightsEach_app : ∀ (ts us : List TypeId) (ds : List (DataW H)), ds.length ≤ ts.length → DataW.weightsEach P (ts ++ us) ds = DataW.weightsEach P ts ds
  | [], us, [], _ => by cases us <;> simp [DataW.weightsEach]
  | [], us, d :: ds, h => by simp at h
  | t :: ts, us, [], _ => by simp [DataW.weightsEach]
  | t :: ts, us, d :: ds, h => by
    rw [List.cons_append, DataW.weightsEach, DataW.weightsEach, weightsEach_app ts us ds (by simpa using h)]

/-- A law over plain arguments: what its row's step asks. -/
theorem law_stepR {S : List TypeId} (hS : closedB P S = true) (hl : laidOutB P = true) {f : FuncId} {fn : Func} {s : ChangeSpec} {apart fresh handsOn again : Bool} {tb : TypeId}
    (hpar : ∀ t ∈ fn.params.toList, t ∈ S ∧ P.readableRec t = true ∧ t < P.types.size) (hvars : s.vars = []) (hres : fn.resultTypes = #[tb]) (htb : P.underlying tb = some .bool)
    (hfn : ∀ ds : List (DataW H), ds.length = fn.params.size → s.fn H ds = { results := [.lit (.bool true)], args := ds })
    (hcon : ∀ as : List AV, as.length = fn.params.size → (∀ (i : Nat) (t : TypeId) (a : AV), fn.params[i]? = some t → as[i]? = some a → ArgR P t a) → ACall P f as noHeap 0 (fun r _ _ => r = .lit (.bool true)))
    {W : World} {base : Nat} {args : Array Value} {ds gs : List (DataW H)} {before : List MemPlace}
    (hval : ∀ (j : Nat) (t : TypeId) (v : Value), fn.params[j]? = some t → args[j]? = some v → Value.okWide P W .any base t v)
    (hW : DataW.Whole enc P fn.params.toList s.vars apart W args.toList ds gs before) (hG : GlobOk (Env.start W)) (hwt : (DataW.weightsEach P (fn.params.toList ++ s.plain.varTypes P) (ds ++ gs)).all (· ≤ reachBytes) = true) :
    Calls P f args W (fun x W' => ∃ v, x = .returned v ∧ s.post enc P fn apart fresh handsOn again W args v W') := by
  have hW' := hW
  obtain ⟨p, q, hA, hV, rfl, hfz, hnd⟩ := hW
  rw [hvars] at hV
  have hgq : gs = [] ∧ q = [] := by
    cases gs with
    | nil => exact ⟨rfl, hV⟩
    | cons g gs => exact hV.elim
  obtain ⟨rfl, rfl⟩ := hgq
  have hds : ds.length = fn.params.size := by
    have key : ∀ (ts : List TypeId) (vs : List Value) (ds : List (DataW H)) (ps : List MemPlace), DataW.TrodAll enc P W 0 (fun _ => true) true ts vs ds ps → ds.length = ts.length := by
      intro ts
      induction ts with
      | nil => intro vs ds ps h; cases vs <;> cases ds <;> first | rfl | exact h.elim
      | cons t ts ih =>
        intro vs ds ps h
        cases vs with
        | nil => exact h.elim
        | cons v vs =>
          cases ds with
          | nil => exact h.elim
          | cons d ds => obtain ⟨_, q, _, h2, _⟩ := h; simp [ih vs ds q h2]
    simpa using key _ _ _ _ hA
  have hwt2 : (DataW.weightsEach P fn.params.toList ds).all (· ≤ reachBytes) = true := by
    rw [List.append_nil, weightsEach_app _ _ _ (by rw [hds]; simp)] at hwt
    exact hwt
  obtain ⟨as, h1, h2, h3, h4⟩ := args_avR hS fn.params.toList args.toList ds p (fun t ht => (hpar t ht).1) (fun j t v hj hv => hval j t v (by simpa using hj) (by simpa using hv)) hA hwt2
  have hc := (hcon as (by simpa using h2) (fun i t a ht ha => h4 i t a (by simpa using ht) ha)).calls W hG (vs := args.toList) h1 h3
  refine hc.mono fun x W' ⟨hx, hb⟩ => ⟨.bool true, hx, ?_⟩
  have hlt : ∀ y ∈ p, y.block < W.heap.size := fun y hy => by simpa using hW'.lt y (by simpa using hy)
  refine post_of_below (pa := p) (pv := []) hW' hb (fun b sp hd => ?_) (fun sp hsp => ?_) (fun sp _ => ?_) (by simp) ?_
  · rw [List.append_nil, hfn ds hds, hres]
    exact ⟨[], [], shut_bool htb _, rfl, rfl⟩
  · rw [List.append_nil, hfn ds hds]
    exact trodAll_below hl hb _ _ _ _ (fun t ht => (hpar t ht).2) hA hlt (fun y hy => hsp y (by simpa using hy))
  · rw [List.append_nil, hfn ds hds, hvars]
    rfl
  · exact ok_one hres rfl (okWide_bool_mk htb _)

end
end Go.Fw

/- Framework, part 33: sorts and compactions of whatever is held in one cell; texts trimmed. -/
namespace Go.Fw
set_option linter.unusedSimpArgs false
set_option linter.unusedVariables false
open Go Go.RowKit
set_option linter.unusedSectionVars false
variable [Globals]

/-- A cell that is told so. -/
abbrev cell {α : Type} (enc : α → Value) (z : α) : AV := .lit (enc z)

section
variable {α : Type} [Inhabited α] {enc : α → Value}

/-- A row's cells written in place, with new blocks behind, that belong to nobody. -/
def Env.wroteG (e : Env) (enc : α → Value) (b base q : Nat) (zs : List α) (os : Array Obj) : Env := { e with w := Sort.grow (Sort.putRow enc (Sort.ahead e.w q) b base zs.toArray) os }

theorem holds_ofG (h1c : ∀ z, (enc z).oneCell' = true) {e : Env} {H : AHeap} (hH : HRep e H) {id : Nat} {zs : List α} (hid : H id = some (.blk (zs.map (cell enc)))) : Sort.Holds enc e.w (e.ρ id).1 (e.ρ id).2 zs.toArray := by
  obtain ⟨_, _, c, t, h1, h2, h3⟩ := hH.at_ id _ hid
  intro j hj
  have hjl : j < zs.length := by simpa using hj
  obtain ⟨u, h4, h5, h6⟩ := h3 j (cell enc zs[j]) (by simp [hjl])
  have hu : u = enc zs[j] := by cases h6; rfl
  subst hu
  refine ⟨?_, ?_⟩
  · simp only [World.cell?, h1]
    rw [h4]
    simp [hjl]
  · simp [World.frozen?, h1]

theorem wrote_okG (h1c : ∀ z, (enc z).oneCell' = true) {e : Env} {H : AHeap} (hH : HRep e H) {id : Nat} {cs : List AV} {zs : List α} (hid : H id = some (.blk cs)) (hl : zs.length = cs.length) (q : Nat) (os : Array Obj) :
    HRep (e.wroteG enc (e.ρ id).1 (e.ρ id).2 q zs os) (H.set id (.blk (zs.map (cell enc)))) ∧ Tr e H (e.wroteG enc (e.ρ id).1 (e.ρ id).2 q zs os) (H.set id (.blk (zs.map (cell enc)))) ∧
      ∃ (c : Array Value) (t : TypeId), e.w.heap[(e.ρ id).1]? = some (.cells c t (0, 0)) ∧ (e.ρ id).2 + cs.length ≤ c.size ∧ Ext e (e.wroteG enc (e.ρ id).1 (e.ρ id).2 q zs os) := by
  obtain ⟨h0, hI, c, t, h1, h2, h3⟩ := hH.at_ id _ hid
  obtain ⟨c', hc'⟩ : ∃ c', c' = Sort.putCells enc (e.ρ id).2 zs.toArray c := ⟨_, rfl⟩
  have hsz : c'.size = c.size := by rw [hc']; simp [Sort.putCells]
  have hat : ∀ j (h : j < zs.length), c'[(e.ρ id).2 + j]? = some (enc zs[j]) := fun j hj => by
    have hlt : (e.ρ id).2 + j < c.size := by omega
    rw [hc']
    unfold Sort.putCells
    rw [Array.getElem?_mapIdx, Array.getElem?_eq_getElem hlt, Option.map_some]
    have hcond : (e.ρ id).2 ≤ (e.ρ id).2 + j ∧ (e.ρ id).2 + j < (e.ρ id).2 + zs.toArray.size := ⟨by omega, by simpa using hj⟩
    rw [if_pos hcond]
    simp [hj]
  have hob : ORep (e.setRow (e.ρ id).1 c') (e.ρ id).1 (e.ρ id).2 (.blk (zs.map (cell enc))) := by
    refine ⟨c', t, setRow_heap _ _ _ _ _ _ h1, by simp; omega, fun j a ha => ?_⟩
    have hj : j < zs.length := by have := (List.getElem?_eq_some_iff.1 ha).1; simpa using this
    refine ⟨enc zs[j], hat j hj, h1c _, ?_⟩
    simp [hj] at ha
    rw [← ha]
    exact .lit _
  have hH1 := hrep_setRow hH hid h1 hsz hob
  have t1 := tr_setRow hH (.blk (zs.map (cell enc))) hid h1 hsz
  have hlt := lt_of_heap h1
  have hp : PTr (e.setRow (e.ρ id).1 c') (e.wroteG enc (e.ρ id).1 (e.ρ id).2 q zs os) := by
    have hsize : (e.setRow (e.ρ id).1 c').w.heap.size = e.w.heap.size := setRow_size _ _ _
    refine ⟨rfl, rfl, fun b hb => ?_, fun b hb => hb, fun b hb => .inl hb, ?_, rfl, rfl, rfl⟩
    · rw [hsize] at hb
      show ((e.w.heap.modify (e.ρ id).1 (Sort.onCells _)) ++ os)[b]? = _
      rw [Array.getElem?_append_left (by simpa using hb), Array.getElem?_modify]
      by_cases hbe : (e.ρ id).1 = b
      · subst hbe
        rw [if_pos rfl, h1]
        show some (Obj.cells (Sort.putCells _ _ _ c) t (0, 0)) = _
        rw [← hc']
        exact (setRow_heap _ _ _ _ _ _ h1).symm
      · rw [if_neg hbe]
        exact (setRow_other _ _ _ _ (fun h => hbe h.symm)).symm
    · rw [hsize]
      show e.w.heap.size ≤ ((e.w.heap.modify (e.ρ id).1 (Sort.onCells _)) ++ os).size
      simp
  exact ⟨hp.hrep hH1, t1.trans (hp.tr hH1), c, t, h1, h2, t1.ext.trans (hp.ext hH1.imm)⟩

section
variable {P : Program} {f : FuncId}

/-- The sort, out of its contract. -/
theorem sortG_acall (h1c : ∀ z, (enc z).oneCell' = true) {le : α → α → Bool} (hg : goodFn P f = true) (hS : ∀ (blk off cap : Nat) (zs : List α) (w : World), Sort.Holds enc w blk off zs.toArray → blk < w.heap.size → zs.length < 4611686018427387904 →
      Calls P f #[.slice (some ⟨blk, off, none⟩) zs.length cap] w fun e w' => e = .returned (.tuple #[]) ∧ ∃ n os, w' = Sort.grow (Sort.putRow enc (Sort.ahead w n) blk off (zs.mergeSort le).toArray) os)
    {H : AHeap} {N id : Nat} {l : List α} (hH : H id = some (.blk (l.map (cell enc)))) (h0 : 0 < l.length) (hl : l.length ≤ 1000000000) :
    ACall P f [.ms id 0 l.length 1] H N (fun r H' N' => r = .tup [] ∧ H' = H.set id (.blk ((l.mergeSort le).map (cell enc))) ∧ N' = N) := by
  refine ⟨hg, fun e vs hE hN hvl hr => ?_⟩
  match vs, hvl with
  | [v], _ =>
    obtain ⟨cap, rfl, _, _, _⟩ := ms_arg (hr 0 _ v rfl rfl) h0
    have hid := hE.at_ id _ hH
    refine (hS _ _ cap l e.w (holds_ofG h1c hE hH) hid.2.2.lt (by omega)).mono ?_
    rintro x w' ⟨rfl, q, os, rfl⟩
    obtain ⟨k1, k2, _⟩ := wrote_okG h1c hE hH (zs := l.mergeSort le) (by simp) q os
    exact ⟨_, e.wroteG enc (e.ρ id).1 (e.ρ id).2 q (l.mergeSort le) os, .tup [], _, rfl, rfl, ⟨rfl, rfl, hN⟩, .tup (vs := []) rfl (fun i c v h => by simp at h), k1, k2⟩

theorem compact_lenG [DecidableEq α] [Inhabited α] (l : List α) : (Lib.compact l).length ≤ l.length := by
  unfold Lib.compact Lib.compactUpTo
  rw [List.length_map]
  have := List.length_filter_le (Lib.keeps l.toArray) (List.range l.length)
  simpa using this

/-- 'Compact', out of its contract. -/
theorem compactG_acall [DecidableEq α] {dflt : α} (h1c : ∀ z, (enc z).oneCell' = true) (hg : goodFn P f = true) (hS : ∀ (blk off cap : Nat) (zs : List α) (w : World), Sort.Holds enc w blk off zs.toArray → zs.length ≤ 9223372036854775807 → zs.length ≤ cap →
      Calls P f #[.slice (some ⟨blk, off, none⟩) zs.length cap] w fun e w' => e = .returned (.slice (some ⟨blk, off, none⟩) (Lib.compact zs).length cap) ∧ ∃ q, w' = Sort.putRow enc (Sort.ahead w q) blk off (Lib.compact zs ++ List.replicate (zs.length - (Lib.compact zs).length) dflt).toArray)
    {H : AHeap} {N id : Nat} {l : List α} (hH : H id = some (.blk (l.map (cell enc)))) (h0 : 0 < l.length) (hl : l.length ≤ 1000000000) :
    ACall P f [.ms id 0 l.length 1] H N (fun r H' N' => r = .ms id 0 (Lib.compact l).length 1 ∧ H' = H.set id (.blk ((Lib.compact l ++ List.replicate (l.length - (Lib.compact l).length) dflt).map (cell enc))) ∧ N' = N) := by
  refine ⟨hg, fun e vs hE hN hvl hr => ?_⟩
  match vs, hvl with
  | [v], _ =>
    obtain ⟨cap, rfl, hcap, hidN, c, t, fz, hc1, hc2⟩ := ms_arg (hr 0 _ v rfl rfl) h0
    have hid := hE.at_ id _ hH
    have hcl := compact_lenG l
    refine (hS _ _ cap l e.w (holds_ofG h1c hE hH) (by omega) hcap).mono ?_
    rintro x w' ⟨rfl, q, rfl⟩
    obtain ⟨k1, k2, c2, t2, h1, h2, hx⟩ := wrote_okG h1c hE hH (zs := Lib.compact l ++ List.replicate (l.length - (Lib.compact l).length) dflt) (by simp; omega) q #[]
    have hw : (e.wroteG enc (e.ρ id).1 (e.ρ id).2 q (Lib.compact l ++ List.replicate (l.length - (Lib.compact l).length) dflt) #[]).w = Sort.putRow enc (Sort.ahead e.w q) (e.ρ id).1 (e.ρ id).2 (Lib.compact l ++ List.replicate (l.length - (Lib.compact l).length) dflt).toArray := by
      simp [Env.wroteG]
    obtain ⟨c3, fz3, h4, h5⟩ := hx.shape _ _ _ _ hc1
    refine ⟨_, e.wroteG enc (e.ρ id).1 (e.ρ id).2 q (Lib.compact l ++ List.replicate (l.length - (Lib.compact l).length) dflt) #[], .ms id 0 (Lib.compact l).length 1, _, rfl, hw, ⟨rfl, rfl, hN⟩, ?_, k1, k2⟩
    exact .ms (e := e.wroteG enc (e.ρ id).1 (e.ρ id).2 q (Lib.compact l ++ List.replicate (l.length - (Lib.compact l).length) dflt) #[]) (id := id) (off := 0) (cap := cap) (ad := ⟨(e.ρ id).1, (e.ρ id).2, none⟩) hidN (by omega) (.inr ⟨rfl, c3, t, fz3, h4, by rw [h5]; show (e.ρ id).2 + 0 + cap * 1 ≤ c.size; omega⟩) rfl

end
end

theorem sbin_eql (a b : ByteArray) : sbin .eql a b = some (.bool (decide (a = b))) := by
  have : (a.toList == b.toList) = decide (a = b) := by
    rw [ByteArray.toList_eq, ByteArray.toList_eq]
    by_cases h : a = b
    · subst h; simp
    · have h2 : a.data ≠ b.data := fun h3 => h (by obtain ⟨x⟩ := a; obtain ⟨y⟩ := b; simp only at h3; rw [h3])
      simp [h, h2]
  simp only [sbin, this]
theorem sbin_neq (a b : ByteArray) : sbin .neq a b = some (.bool (!decide (a = b))) := by
  have := sbin_eql a b
  simp only [sbin, Option.some.injEq, Value.bool.injEq] at this ⊢
  rw [this]
attribute [simp] sbin_eql sbin_neq

/-- A text's bytes. -/
abbrev btxt (l : List UInt8) : ByteArray := ⟨l.toArray⟩
theorem btxt_data (s : ByteArray) : btxt s.data.toList = s := rfl

section
variable {P : Program} {f : FuncId}

/-- A trimming, out of its contract. -/
theorem trim_pcall (hg : goodFn P f = true) {s c : ByteArray} {r : List UInt8} (hS : ∀ (w : World), Calls P f #[.string s, .string c] w fun e w' => e = .returned (.string ⟨r.toArray⟩) ∧ Below w.heap.size w w') :
    PCall P f [str s, str c] (str ⟨r.toArray⟩) := by
  refine ⟨hg, fun e vs hi hvl hv => ?_⟩
  match vs, hvl with
  | [v, u], _ =>
    have h0 := hv 0 _ v rfl rfl
    have h1 := hv 1 _ u rfl rfl
    cases h0
    cases h1
    refine (hS e.w).mono ?_
    rintro x w' ⟨rfl, hb⟩
    exact ⟨_, { e with w := w' }, rfl, rfl, .lit _, rfl, rfl, fun b hlt => hb.block b hlt, fun _ h => h, fun _ h => .inl h, hb.size, hb.os, hb.tape, hb.output⟩
end
end Go.Fw

/- Framework, part 34: arguments of any shape, with their size. -/
namespace Go.Fw
set_option linter.unusedSimpArgs false
set_option linter.unusedVariables false
open Go Go.RowKit Go.ChangeAt Go.ChangeShapes Go.WideShapes
set_option linter.unusedSectionVars false
variable [Globals]

/-- Cells of a type that is made of numbers, truths, texts, slices and structs, as large as a memory holds. -/
def LaysR (P : Program) : Nat → TypeId → List AV → Prop
  | 0, _, _ => False
  | n + 1, t, as => match P.underlying t with
    | some .bool => ∃ b, as = [.lit (.bool b)]
    | some (.int k) => ∃ m, as = [.lit (.int k m)] ∧ (Lit.int k m).wf = true
    | some .string => ∃ s, as = [.lit (.string s)] ∧ s.size ≤ reachBytes
    | some (.slice e) => ∃ kd es, as = [.sl kd (P.cellsOf e) es] ∧ (kd = .nil ∧ es = [] ∨ kd = .any) ∧ es.length ≤ maxLen ∧ es.length * P.bytesOf e ≤ reachBytes ∧ ∀ x ∈ es, LaysR P n e x
    | some (.struct fs) => ∃ parts : List (List AV), as = parts.flatten ∧ parts.length = fs.size ∧ ∀ (i : Nat) (f : Field) (p : List AV), fs[i]? = some f → parts[i]? = some p → LaysR P n f.type p
    | _ => False

section
variable {P : Program} {H : Type} {enc : TypeId × Value → H}

theorem weightsAll_in {e : TypeId} {y : DataW H} {v : Nat} : ∀ {ds : List (DataW H)}, y ∈ ds → v ∈ y.weights P e → v ∈ DataW.weightsAll P e ds
  | [], h, _ => by simp at h
  | d :: ds, h, hv => by
    rw [DataW.weightsAll, List.mem_append]
    rcases List.mem_cons.1 h with rfl | h
    · exact .inl hv
    · exact .inr (weightsAll_in h hv)

theorem fields_repS {S : List TypeId} {w : World} {fuel : Nat} {cs : List Value} (ih : ∀ (t : TypeId) (cs : List Value) (x : DataW H × List MemPlace), t ∈ S →
      DataW.trod enc P w 0 (fun _ => true) true fuel t cs = some x → (∀ v ∈ x.1.weights P t, v ≤ reachBytes) → ∃ as, RelC (Env.start w) as cs ∧ LaysR P fuel t as) : ∀ (fs : List Field) (off : Nat) (xs : List (DataW H × List MemPlace)),
    tilesB P fs off cs.length = true → (∀ f ∈ fs, f.type ∈ S) → fs.mapM (fun f => DataW.trod enc P w 0 (fun _ => true) true fuel f.type ((cs.drop f.offset).take (P.cellsOf f.type))) = some xs → (∀ v ∈ DataW.weightsEach P (fs.map (·.type)) (xs.map (·.1)), v ≤ reachBytes) →
    ∃ parts : List (List AV), parts.length = fs.length ∧ RelC (Env.start w) parts.flatten (cs.drop off) ∧ ∀ (i : Nat) (f : Field) (p : List AV), fs[i]? = some f → parts[i]? = some p → LaysR P fuel f.type p
  | [], off, xs, ht, _, _, _ => by
    simp only [tilesB, beq_iff_eq] at ht
    subst ht
    exact ⟨[], rfl, ⟨by simp, fun i a u ha => by simp at ha⟩, fun i f p hf => by simp at hf⟩
  | f :: fs, off, xs, ht, hS, h, hwt => by
    simp only [tilesB, Bool.and_eq_true, beq_iff_eq] at ht
    obtain ⟨rfl, ht⟩ := ht
    simp only [List.mapM_cons, Option.bind_eq_bind, Option.pure_def, Option.bind_eq_some_iff, Option.some.injEq] at h
    obtain ⟨y, hy, r, hr, rfl⟩ := h
    simp only [List.map_cons, DataW.weightsEach, List.mem_append] at hwt
    obtain ⟨as, h1, h2⟩ := ih _ _ _ (hS f (by simp)) hy (fun v hv => hwt v (.inl hv))
    obtain ⟨parts, h3, h4, h5⟩ := fields_repS ih fs _ r ht (fun g hg => hS g (by simp [hg])) hr (fun v hv => hwt v (.inr hv))
    refine ⟨as :: parts, by simp [h3], ?_, fun i g p hg hp => ?_⟩
    · have hd : cs.drop f.offset = (cs.drop f.offset).take (P.cellsOf f.type) ++ cs.drop (f.offset + P.cellsOf f.type) := by
        rw [← List.drop_drop, List.take_append_drop]
      rw [hd, List.flatten_cons]
      exact h1.append h4
    · cases i with
      | zero => simp at hg hp; subst hg; subst hp; exact h2
      | succ i => exact h5 i g p (by simpa using hg) (by simpa using hp)

/-- What a reading met, as abstract cells. -/
theorem trod_repS {S : List TypeId} (hS : closedB P S = true) {w : World} : ∀ (fuel : Nat) (t : TypeId) (cs : List Value) (x : DataW H × List MemPlace), t ∈ S →
    DataW.trod enc P w 0 (fun _ => true) true fuel t cs = some x → (∀ v ∈ x.1.weights P t, v ≤ reachBytes) → ∃ as, RelC (Env.start w) as cs ∧ LaysR P fuel t as
  | 0, t, cs, x, _, h, _ => by simp [DataW.trod] at h
  | fuel + 1, t, cs, x, ht, h, hwt => by
    have ih := trod_repS hS (w := w) fuel
    have one : ∀ (a : AV) (v : Value), v.oneCell' = true → Rep (Env.start w) a v → RelC (Env.start w) [a] [v] := fun a v h1 h2 =>
      ⟨rfl, fun i b u hb hu => by
        cases i with
        | zero => simp at hb hu; subst hb; subst hu; exact ⟨h1, h2⟩
        | succ i => simp at hb⟩
    have hc := List.all_eq_true.1 hS t ht
    unfold DataW.trod at h
    cases hu : P.underlying t with
    | none => rw [hu] at hc; cases hc
    | some d =>
      rw [hu] at hc h
      cases d <;> simp only [reduceCtorEq] at hc
      case bool =>
        split at h
        case h_1 => exact ⟨_, one (.lit (.bool _)) _ rfl (.lit _), by simp only [LaysR, hu]; exact ⟨_, rfl⟩⟩
        all_goals first | (rename_i he _; cases he; done) | (rename_i he _ _; cases he; done) | (cases h; done) | (simp_all; done)
      case int k =>
        split at h
        case h_2 k1 k2 n he =>
          cases he
          split at h
          · rename_i hk
            obtain ⟨rfl, hw⟩ := hk
            exact ⟨_, one (.lit (.int _ n)) _ rfl (.lit _), by simp only [LaysR, hu]; exact ⟨n, rfl, hw⟩⟩
          · cases h
        all_goals first | (rename_i he _; cases he; done) | (rename_i he _ _; cases he; done) | (cases h; done) | (simp_all; done)
      case string =>
        split at h
        case h_4 s he =>
          split at h
          · rename_i hk
            cases h
            refine ⟨_, one (.lit (.string s)) _ rfl (.lit _), ?_⟩
            simp only [LaysR, hu]
            refine ⟨s, rfl, ?_⟩
            have := hwt s.data.toList.length (by simp [DataW.weights])
            simpa using this
          · cases h
        all_goals first | (rename_i he _; cases he; done) | (rename_i he _ _; cases he; done) | (cases h; done) | (simp_all; done)
      case slice e =>
        simp only [Bool.and_eq_true, List.contains_iff_mem, decide_eq_true_eq] at hc
        obtain ⟨he, hpos⟩ := hc
        split at h
        case h_7 e' he' =>
          exact ⟨[.sl .nil (P.cellsOf e) []], one _ _ rfl (.slNil _), by simp only [LaysR, hu]; exact ⟨.nil, [], rfl, .inl ⟨rfl, rfl⟩, by simp, by simp, by simp⟩⟩
        case h_8 e' a len cap he' =>
          cases he'
          simp only at h
          split at h
          · rename_i hcond
            obtain ⟨_, hlc, hcm⟩ := hcond
            obtain ⟨elems, hel, h⟩ := Option.bind_eq_some_iff.1 h
            simp only [if_true, Option.map_eq_some_iff] at h
            obtain ⟨rest, hrest, hxx⟩ := h
            rw [← hxx] at hwt
            simp only [DataW.weights, hu] at hwt
            have hell0 : elems.length = len := by
              obtain ⟨h1, _⟩ := mapM_get hel
              simpa using h1
            have hA := mapM_range hel
            have hB := mapM_range hrest
            -- the elements
            obtain ⟨es, hesl, hes⟩ := choose_list (Q := fun i as => ∃ us, w.cells? 0 (a.add (i * P.cellsOf e)) (P.cellsOf e) = some us ∧ RelC (Env.start w) as us ∧ LaysR P fuel e as) len (fun i hi => by
              obtain ⟨y, hy, hyi⟩ := hA i hi
              obtain ⟨us, h1, h2⟩ := Option.bind_eq_some_iff.1 hy
              obtain ⟨as, h3, h4⟩ := ih e us y he h2 (fun v hv => hwt v (List.mem_cons_of_mem _ (List.mem_append.2 (.inl (weightsAll_in (List.mem_map.2 ⟨y, List.mem_of_getElem? hyi, rfl⟩) hv)))))
              exact ⟨as, us, h1, h3, h4⟩)
            have hspot : 0 < cap → a.spot = none ∧ a.block < w.heap.size := fun h0 => by
              have : ∃ us, w.cells? 0 (a.add (0 * P.cellsOf e)) (P.cellsOf e) = some us := by
                by_cases hl : 0 < len
                · obtain ⟨y, hy, _⟩ := hA 0 hl
                  obtain ⟨us, h1, _⟩ := Option.bind_eq_some_iff.1 hy
                  exact ⟨us, h1⟩
                · obtain ⟨y, hy, _⟩ := hB 0 (by omega)
                  obtain ⟨us, h1, _⟩ := Option.bind_eq_some_iff.1 hy
                  exact ⟨us, by rw [show len + 0 = 0 by omega] at h1; exact h1⟩
              obtain ⟨us, h1⟩ := this
              obtain ⟨h2, h3⟩ := cells?_spec h1
              have h4 := h3 0 (us[0]'(by omega)) (by simp)
              rw [show a.add (0 * P.cellsOf e) = a by simp [Addr.add], show a.add 0 = a by simp [Addr.add]] at h4
              have := lt_of_cell h4
              exact ⟨this.2, this.1⟩
            have hlay : LaysR P (fuel + 1) t [.sl .any (P.cellsOf e) es] := by
              simp only [LaysR, hu]
              refine ⟨.any, es, rfl, .inr rfl, by omega, ?_, fun x hx => ?_⟩
              · have h9 := hwt _ (List.mem_cons_self)
                simp only [List.length_map] at h9
                rw [hesl, ← hell0]
                exact Nat.le_trans (Nat.mul_le_mul_right _ (Nat.le_add_right _ _)) h9
              obtain ⟨i, hi, rfl⟩ := List.getElem_of_mem hx
              obtain ⟨us, _, _, h4⟩ := hes i es[i] (by simp [hi])
              exact h4
            refine ⟨[.sl .any (P.cellsOf e) es], one _ _ rfl ?_, hlay⟩
            by_cases h0 : cap = 0
            · have hl0 : len = 0 := by omega
              have : es = [] := List.eq_nil_of_length_eq_zero (by omega)
              subst this; subst h0; subst hl0
              exact .slE (by simp)
            · obtain ⟨hsp, hblk⟩ := hspot (by omega)
              obtain ⟨b, o, s⟩ := a
              simp only at hsp hblk
              subst hsp
              have hrep := rep_sl_intro (e := Env.start w) (k := .any) (sz := P.cellsOf e) (es := es) (b := b) (o := o) (cap := cap) (by simp) (fun _ => hblk) (by omega) (by simp)
                (fun x hx => by
                  obtain ⟨i, hi, rfl⟩ := List.getElem_of_mem hx
                  obtain ⟨us, h1, h2, _⟩ := hes i es[i] (by simp [hi])
                  rw [← h2.1, (cells?_spec h1).1])
                (fun i x hx j c hj => by
                  obtain ⟨us, h1, h2, _⟩ := hes i x hx
                  have hjl : j < us.length := by have := (List.getElem?_eq_some_iff.1 hj).1; rw [h2.1]; exact this
                  obtain ⟨h3, h4⟩ := h2.2 j c us[j] hj (by simp [hjl])
                  have h5 := (cells?_spec h1).2 j us[j] (by simp [hjl])
                  rw [addr_add, addr_add] at h5
                  exact ⟨us[j], h5, h3, h4⟩)
              rw [hesl] at hrep
              exact hrep
          · cases h
        all_goals first | (rename_i he _; cases he; done) | (rename_i he _ _; cases he; done) | (cases h; done) | (simp_all; done)
      case struct fs =>
        simp only [Bool.and_eq_true, List.all_eq_true, List.contains_iff_mem] at hc
        obtain ⟨hin, htile⟩ := hc
        split at h
        case h_9 fs' cs' he' =>
          cases he'
          split at h
          · rename_i hlen
            simp only [Option.map_eq_some_iff] at h
            obtain ⟨xs, hxs, hxx⟩ := h
            rw [← hxx] at hwt
            simp only [DataW.weights, hu] at hwt
            rw [← hlen] at htile
            obtain ⟨parts, h1, h2, h3⟩ := fields_repS ih fs.toList 0 xs htile (fun f hf => hin f hf) hxs hwt
            refine ⟨parts.flatten, by simpa using h2, ?_⟩
            simp only [LaysR, hu]
            exact ⟨parts, rfl, by simpa using h1, fun i f p hf hp => h3 i f p (by simpa using hf) hp⟩
          · cases h
        all_goals first | (rename_i he _; cases he; done) | (rename_i he _ _; cases he; done) | (cases h; done) | (simp_all; done)

/-- An argument, and how large it is, in all its parts. -/
def ArgS (P : Program) (t : TypeId) (a : AV) : Prop := ∃ as n, LaysR P n t as ∧ a = (match P.underlying t with | some (.struct _) => AV.agg as | _ => as.headD .junk)

theorem arg_avS {S : List TypeId} (hS : closedB P S = true) {w : World} {base : Nat} {t : TypeId} {v : Value} {d : DataW H} {ps : List MemPlace} (ht : t ∈ S)
    (hok : Value.okWide P w .any base t v) (h : DataW.Trod enc P w 0 (fun _ => true) true t v d ps) (hw : (d.weights P t).all (· ≤ reachBytes) = true) : ∃ a, Rep (Env.start w) a v ∧ ArgS P t a := by
  rw [List.all_eq_true] at hw
  obtain ⟨n, h⟩ := h
  obtain ⟨as, h1, h2⟩ := trod_repS hS n t _ _ ht h (fun v hv => by simpa using hw v hv)
  by_cases hst : ∃ fs, P.underlying t = some (.struct fs)
  · obtain ⟨fs, hfs⟩ := hst
    simp only [Value.okWide, hfs] at hok
    obtain ⟨cs, rfl, _⟩ := hok
    simp only [Value.cells] at h1
    refine ⟨.agg as, .agg (vs := cs.toList) h1.1 (fun u hu => ?_) (fun i c u hc hu => (h1.2 i c u hc hu).2), as, n, h2, by rw [hfs]⟩
    obtain ⟨i, hi, rfl⟩ := List.getElem_of_mem hu
    have hi' : i < as.length := by rw [← h1.1]; exact hi
    exact (h1.2 i as[i] _ (by simp [hi']) (by simp at hi; simp [hi])).1
  · have hone : (∃ a, as = [a]) ∧ v.cells = #[v] := by
      cases n with
      | zero => exact h2.elim
      | succ n =>
        simp only [LaysR] at h2
        split at h2
        · rename_i hu
          obtain ⟨b, rfl⟩ := h2
          refine ⟨⟨_, rfl⟩, ?_⟩
          cases v <;> first | rfl | (simp [Value.okWide, hu, Cell.okWide, Cell.ok] at hok; done)
        · rename_i hu
          obtain ⟨m, rfl, _⟩ := h2
          refine ⟨⟨_, rfl⟩, ?_⟩
          cases v <;> first | rfl | (simp [Value.okWide, hu, Cell.okWide, Cell.ok] at hok; done)
        · rename_i hu
          obtain ⟨s, rfl, _⟩ := h2
          refine ⟨⟨_, rfl⟩, ?_⟩
          cases v <;> first | rfl | (simp [Value.okWide, hu, Cell.okWide, Cell.ok] at hok; done)
        · rename_i hu
          obtain ⟨kd, es, rfl, _⟩ := h2
          refine ⟨⟨_, rfl⟩, ?_⟩
          cases v <;> first | rfl | (simp [Value.okWide, hu, Cell.okWide, Cell.ok] at hok; done)
        · rename_i fs hfs; exact absurd ⟨fs, hfs⟩ hst
        · exact h2.elim
    obtain ⟨⟨a, rfl⟩, hv⟩ := hone
    refine ⟨a, ?_, [a], n, h2, ?_⟩
    · rw [hv] at h1
      exact (h1.2 0 a v (by simp) (by simp)).2
    · split
      · rename_i fs hfs; exact absurd ⟨fs, hfs⟩ hst
      · rfl

theorem args_avS {S : List TypeId} (hS : closedB P S = true) {w : World} {base : Nat} : ∀ (ts : List TypeId) (vs : List Value) (ds : List (DataW H)) (ps : List MemPlace), (∀ t ∈ ts, t ∈ S) →
    (∀ (j : Nat) (t : TypeId) (v : Value), ts[j]? = some t → vs[j]? = some v → Value.okWide P w .any base t v) → DataW.TrodAll enc P w 0 (fun _ => true) true ts vs ds ps → (DataW.weightsEach P ts ds).all (· ≤ reachBytes) = true →
    ∃ as : List AV, vs.length = as.length ∧ as.length = ts.length ∧ (∀ (i : Nat) (c : AV) (v : Value), as[i]? = some c → vs[i]? = some v → Rep (Env.start w) c v) ∧ ∀ (i : Nat) (t : TypeId) (a : AV), ts[i]? = some t → as[i]? = some a → ArgS P t a
  | [], [], [], _, _, _, _, _ => ⟨[], rfl, rfl, fun i c v hc => by simp at hc, fun i t a hc => by simp at hc⟩
  | t :: ts, v :: vs, d :: ds, ps, hin, hok, h, hw => by
    obtain ⟨p, q, h1, h2, rfl⟩ := h
    rw [DataW.weightsEach, List.all_append, Bool.and_eq_true] at hw
    obtain ⟨a, g1, g2⟩ := arg_avS hS (hin t (by simp)) (hok 0 t v rfl rfl) h1 hw.1
    obtain ⟨as, k1, k2, k3, k4⟩ := args_avS hS ts vs ds q (fun t ht => hin t (by simp [ht])) (fun j t v hj hv => hok (j + 1) t v (by simpa using hj) (by simpa using hv)) h2 hw.2
    refine ⟨a :: as, by simp [k1], by simp [k2], fun i c u hc hu => ?_, fun i t' b ht hb => ?_⟩
    · cases i with
      | zero => simp at hc hu; subst hc; subst hu; exact g1
      | succ i => exact k3 i c u (by simpa using hc) (by simpa using hu)
    · cases i with
      | zero => simp at ht hb; subst ht; subst hb; exact g2
      | succ i => exact k4 i t' b (by simpa using ht) (by simpa using hb)
  | [], _ :: _, _, _, _, _, h, _ => h.elim
  | [], [], _ :: _, _, _, _, h, _ => h.elim
  | _ :: _, [], _, _, _, _, h, _ => h.elim
  | _ :: _, _ :: _, [], _, _, _, h, _ => h.elim

/-- A law over plain arguments: what its row's step asks. -/
theorem law_stepS {S : List TypeId} (hS : closedB P S = true) (hl : laidOutB P = true) {f : FuncId} {fn : Func} {s : ChangeSpec} {apart fresh handsOn again : Bool} {tb : TypeId}
    (hpar : ∀ t ∈ fn.params.toList, t ∈ S ∧ P.readableRec t = true ∧ t < P.types.size) (hvars : s.vars = []) (hres : fn.resultTypes = #[tb]) (htb : P.underlying tb = some .bool)
    (hfn : ∀ ds : List (DataW H), ds.length = fn.params.size → s.fn H ds = { results := [.lit (.bool true)], args := ds })
    (hcon : ∀ as : List AV, as.length = fn.params.size → (∀ (i : Nat) (t : TypeId) (a : AV), fn.params[i]? = some t → as[i]? = some a → ArgS P t a) → ACall P f as noHeap 0 (fun r _ _ => r = .lit (.bool true)))
    {W : World} {base : Nat} {args : Array Value} {ds gs : List (DataW H)} {before : List MemPlace}
    (hval : ∀ (j : Nat) (t : TypeId) (v : Value), fn.params[j]? = some t → args[j]? = some v → Value.okWide P W .any base t v)
    (hW : DataW.Whole enc P fn.params.toList s.vars apart W args.toList ds gs before) (hG : GlobOk (Env.start W)) (hwt : (DataW.weightsEach P (fn.params.toList ++ s.plain.varTypes P) (ds ++ gs)).all (· ≤ reachBytes) = true) :
    Calls P f args W (fun x W' => ∃ v, x = .returned v ∧ s.post enc P fn apart fresh handsOn again W args v W') := by
  have hW' := hW
  obtain ⟨p, q, hA, hV, rfl, hfz, hnd⟩ := hW
  rw [hvars] at hV
  have hgq : gs = [] ∧ q = [] := by
    cases gs with
    | nil => exact ⟨rfl, hV⟩
    | cons g gs => exact hV.elim
  obtain ⟨rfl, rfl⟩ := hgq
  have hds : ds.length = fn.params.size := by
    have key : ∀ (ts : List TypeId) (vs : List Value) (ds : List (DataW H)) (ps : List MemPlace), DataW.TrodAll enc P W 0 (fun _ => true) true ts vs ds ps → ds.length = ts.length := by
      intro ts
      induction ts with
      | nil => intro vs ds ps h; cases vs <;> cases ds <;> first | rfl | exact h.elim
      | cons t ts ih =>
        intro vs ds ps h
        cases vs with
        | nil => exact h.elim
        | cons v vs =>
          cases ds with
          | nil => exact h.elim
          | cons d ds => obtain ⟨_, q, _, h2, _⟩ := h; simp [ih vs ds q h2]
    simpa using key _ _ _ _ hA
  have hwt2 : (DataW.weightsEach P fn.params.toList ds).all (· ≤ reachBytes) = true := by
    rw [List.append_nil, weightsEach_app _ _ _ (by rw [hds]; simp)] at hwt
    exact hwt
  obtain ⟨as, h1, h2, h3, h4⟩ := args_avS hS fn.params.toList args.toList ds p (fun t ht => (hpar t ht).1) (fun j t v hj hv => hval j t v (by simpa using hj) (by simpa using hv)) hA hwt2
  have hc := (hcon as (by simpa using h2) (fun i t a ht ha => h4 i t a (by simpa using ht) ha)).calls W hG (vs := args.toList) h1 h3
  refine hc.mono fun x W' ⟨hx, hb⟩ => ⟨.bool true, hx, ?_⟩
  have hlt : ∀ y ∈ p, y.block < W.heap.size := fun y hy => by simpa using hW'.lt y (by simpa using hy)
  refine post_of_below (pa := p) (pv := []) hW' hb (fun b sp hd => ?_) (fun sp hsp => ?_) (fun sp _ => ?_) (by simp) ?_
  · rw [List.append_nil, hfn ds hds, hres]
    exact ⟨[], [], shut_bool htb _, rfl, rfl⟩
  · rw [List.append_nil, hfn ds hds]
    exact trodAll_below hl hb _ _ _ _ (fun t ht => (hpar t ht).2) hA hlt (fun y hy => hsp y (by simpa using hy))
  · rw [List.append_nil, hfn ds hds, hvars]
    rfl
  · exact ok_one hres rfl (okWide_bool_mk htb _)

end
end Go.Fw

/- Framework: 'Grow' of a nil slice, out of its contract. -/
namespace Go.Fw
set_option linter.unusedSimpArgs false
set_option linter.unusedVariables false
open Go
set_option linter.unusedSectionVars false
variable [Globals]

theorem grow_acall {P : Program} {f : FuncId} (hg : goodFn P f = true) {el : TypeId} {n : Nat} (hS : ∀ (w : World), Calls P f #[.slice none 0 0, .int .i64 n] w fun e w' =>
      ∃ (G : Nat) (cells : Array Value), G ≤ cells.size ∧ e = .returned (.slice (some ⟨w.heap.size, 0, none⟩) 0 G) ∧ w' = w.drew.alloc (.cells cells el)) {H : AHeap} {N z : Nat} :
    ACall P f [.sl .nil z [], .lit (.int .i64 n)] H N (fun r H' N' => r = .ms N 0 0 1 ∧ H' = H.set N (.blk []) ∧ N' = N + 1) := by
  refine ⟨hg, fun e vs hE hN hvl hr => ?_⟩
  match vs, hvl with
  | [v1, v2], _ =>
    have h1 := hr 0 _ v1 rfl rfl
    have h2 := hr 1 _ v2 rfl rfl
    have e1 : v1 = .slice none 0 0 := by
      rcases rep_sl_inv h1 with ⟨_, _, rfl⟩ | ⟨h0, _⟩ | ⟨h0, _⟩
      · rfl
      · exact absurd rfl h0
      · exact absurd rfl h0
    have e2 : v2 = .int .i64 n := by cases h2; rfl
    subst e1 e2
    refine (hS e.w).mono ?_
    rintro x w' ⟨G, cells, hG, rfl, rfl⟩
    obtain ⟨g1, g2⟩ := new_obj (e := e.drew) (hrep_drew hE) (cs := []) (us := []) (rest := cells.toList) el rfl (fun i a u h _ => by simp at h)
    have hc : ([] ++ cells.toList).toArray = cells := by simp
    rw [hc] at g1 g2
    refine ⟨.slice (some ⟨e.w.heap.size, 0, none⟩) 0 G, e.drew.allocO (.cells cells el), .ms N 0 0 1, _, rfl, rfl, ⟨rfl, rfl, by rw [← hN]; rfl⟩, ?_, ?_, ?_⟩
    · have := rep_new_ms (e := e.drew) (us := cells.toList) el (len := 0) (cap := G) (sz := 1) (Nat.zero_le _) (by simpa using hG)
      rw [← hN]
      have hc2 : cells.toList.toArray = cells := by simp
      rw [hc2] at this
      exact this
    · rw [← hN]; exact g1
    · rw [← hN]; exact (tr_drew e H).trans g2

theorem grow_none {P : Program} {f : FuncId} (hg : goodFn P f = true) (hS : ∀ (w : World), Calls P f #[.slice none 0 0, .int .i64 0] w fun e w' => e = .returned (.slice none 0 0) ∧ w' = w) {z : Nat} : PCall P f [.sl .nil z [], .lit (.int .i64 0)] (.sl .nil z []) := by
  refine ⟨hg, fun e vs hi hvl hr => ?_⟩
  match vs, hvl with
  | [v1, v2], _ =>
    have h1 := hr 0 _ v1 rfl rfl
    have h2 := hr 1 _ v2 rfl rfl
    have e1 : v1 = .slice none 0 0 := by
      rcases rep_sl_inv h1 with ⟨_, _, rfl⟩ | ⟨h0, _⟩ | ⟨h0, _⟩
      · rfl
      · exact absurd rfl h0
      · exact absurd rfl h0
    have e2 : v2 = .int .i64 0 := by cases h2; rfl
    subst e1 e2
    refine (hS e.w).mono ?_
    rintro x w' ⟨rfl, rfl⟩
    exact ⟨_, e, rfl, rfl, .slNil _, rfl, rfl, fun _ _ => rfl, fun _ h => h, fun _ h => .inl h, Nat.le_refl _, rfl, rfl, rfl⟩
end Go.Fw

/- Framework, part 37: two operations in any row. -/
namespace Go.Fw
set_option linter.unusedSimpArgs false
set_option linter.unusedVariables false
open Go
set_option linter.unusedSectionVars false
variable [Globals]
section
variable {P : Program} {fs : List Fr} {Q : Post} {A : Nat → AV} {H : AHeap} {N : Nat}

theorem upA_comm {A : Nat → AV} {d e : Nat} {v w : AV} (h : d ≠ e) : upA (upA A d v) e w = upA (upA A e w) d v := by
  funext t
  simp only [upA_at]
  by_cases h1 : t = e
  · rw [if_pos h1, if_neg (by rw [h1]; exact fun h' => h h'.symm), if_pos h1]
  · rw [if_neg h1, if_neg h1]

/-- A call, and a load out of what it leaves as it was. -/
theorem draw_call_load {i j d1 d2 t sz : Nat} {ag : Bool} {op : AOp} {v : AV} {Post' : AV → AHeap → Nat → Prop} (hij : i ≠ j) (hd : d1 ≠ d2) (h1 : t ≠ d1) (h2 : t ≠ d2) (hl0 : aload H ag sz (A t) = some v)
    (hcall : ∀ (A' : Nat → AV) (Q' : St → Prop), (∀ t, t ≠ d2 → A' t = A t) → (∀ r H' N', Post' r H' N' → Q' ⟨upA A' d1 r, H', N'⟩) → runOps P [⟨some d1, op, none⟩] [] (fun _ => Q') ⟨A', H, N⟩)
    (hl1 : ∀ r H' N', Post' r H' N' → aload H' ag sz (A t) = some v)
    (hk : ∀ r H' N', Post' r H' N' → onward P fs Q .normal ⟨upA (upA A d1 r) d2 v, H', N'⟩) : run P (.draw [(i, ⟨some d1, op, none⟩, []), (j, ⟨some d2, .load ag sz (.tmp t), none⟩, [])]) fs Q ⟨A, H, N⟩ := by
  have hji : (j == i) = false := by simpa using fun h => hij h.symm
  have hij' : (i == j) = false := by simpa using hij
  refine run_draw (fun L s => (L i = false ∧ L j = false ∧ s = ⟨A, H, N⟩) ∨ (L i = false ∧ L j = true ∧ s = ⟨upA A d2 v, H, N⟩) ∨ (L i = true ∧ L j = false ∧ ∃ r, Post' r s.H s.N ∧ s.A = upA A d1 r) ∨ (L i = true ∧ L j = true ∧ ∃ r, Post' r s.H s.N ∧ s.A = upA (upA A d1 r) d2 v)) (.inl ⟨rfl, rfl, rfl⟩) ?_ ?_
  · intro x hx L A1 H1 N1 hat hI
    simp only [List.mem_cons, List.not_mem_nil, or_false] at hx
    rcases hx with rfl | rfl
    · have hL : L i = false := hat.1
      rcases hI with ⟨_, q2, q3⟩ | ⟨_, q2, q3⟩ | ⟨q1, _⟩ | ⟨q1, _⟩
      · cases q3
        refine hcall A _ (fun _ _ => rfl) fun r H' N' hp => ?_
        exact .inr (.inr (.inl ⟨by simp, by simp [q2, hji], r, hp, rfl⟩))
      · cases q3
        refine hcall _ _ (fun t ht => by rw [upA_at, if_neg ht]) fun r H' N' hp => ?_
        exact .inr (.inr (.inr ⟨by simp, by simp [q2], r, hp, (upA_comm hd).symm⟩))
      · rw [hL] at q1; cases q1
      · rw [hL] at q1; cases q1
    · have hL : L j = false := hat.1
      rcases hI with ⟨q1, _, q3⟩ | ⟨_, q2, _⟩ | ⟨q1, _, r, hp, hA⟩ | ⟨_, q2, _⟩
      · cases q3
        simp only [runOps_load, aop, ev_tmp, hl0, Option.map_some, thenK_some, upd_some, runOps_nil, onward_nil]
        exact .inr (.inl ⟨by simp [q1, hij'], by simp, trivial⟩)
      · rw [hL] at q2; cases q2
      · simp only at hA hp
        subst hA
        have ht : upA A d1 r t = A t := by rw [upA_at, if_neg h1]
        have hl := hl1 r H1 N1 hp
        rw [← ht] at hl
        simp only [runOps_load, aop, ev_tmp, hl, Option.map_some, thenK_some, upd_some, runOps_nil, onward_nil]
        exact .inr (.inr (.inr ⟨by simp [q1], by simp, r, hp, rfl⟩))
      · rw [hL] at q2; cases q2
  · intro L A1 H1 N1 hall hI
    have hi : L i = true := hall (i, ⟨some d1, op, none⟩, []) (by simp)
    have hj : L j = true := hall (j, ⟨some d2, .load ag sz (.tmp t), none⟩, []) (by simp)
    rcases hI with ⟨q1, _⟩ | ⟨q1, _⟩ | ⟨_, q2, _⟩ | ⟨_, _, r, hp, hA⟩
    · rw [hi] at q1; cases q1
    · rw [hi] at q1; cases q1
    · rw [hj] at q2; cases q2
    · simp only at hA hp
      subst hA
      exact hk r H1 N1 hp
end
end Go.Fw
