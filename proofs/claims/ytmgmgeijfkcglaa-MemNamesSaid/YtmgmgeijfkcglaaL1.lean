/- Library, part 1: numbers, slices that are read, slices that grow. -/
import Derived.Test.YtmgmgeijfkcglaaH6
namespace Go.Fw
set_option linter.unusedSimpArgs false
set_option linter.unusedVariables false
open Go
set_option linter.unusedSectionVars false
variable [Globals]

abbrev i64 (n : Int) : AV := .lit (.int .i64 n)
abbrev u8 (n : Int) : AV := .lit (.int .u8 n)
abbrev bl (b : Bool) : AV := .lit (.bool b)
abbrev str (s : ByteArray) : AV := .lit (.string s)
abbrev w64 (n : Int) : Int := IntKind.i64.wrap n

theorem cells_i64 (n : Int) : (i64 n).cells = some [i64 n] := rfl
theorem cells_u8 (n : Int) : (u8 n).cells = some [u8 n] := rfl
theorem cells_bl (b : Bool) : (bl b).cells = some [bl b] := rfl
theorem cells_str (s : ByteArray) : (str s).cells = some [str s] := rfl
theorem cells_agg (cs : List AV) : (AV.agg cs).cells = some cs := rfl
theorem cells_sl (k : SK) (z : Nat) (es : List (List AV)) : (AV.sl k z es).cells = some [.sl k z es] := rfl
theorem cells_ms (id off len sz : Nat) : (AV.ms id off len sz).cells = some [.ms id off len sz] := rfl
theorem cells_mp (id off : Nat) : (AV.mp id off).cells = some [.mp id off] := rfl
theorem cells_ip (cs : List AV) (off : Nat) : (AV.ip cs off).cells = some [.ip cs off] := rfl
theorem cells_fn (f : Fn) (a b : List AV) : (AV.fn f a b).cells = some [.fn f a b] := rfl
attribute [simp] cells_i64 cells_u8 cells_bl cells_str cells_agg cells_sl cells_ms cells_mp cells_ip cells_fn

theorem wrap_i64 {n : Int} (h : -9223372036854775808 ≤ n) (h2 : n < 9223372036854775808) : IntKind.i64.wrap n = n := by
  simp [IntKind.wrap, IntKind.min, IntKind.max, IntKind.bits, IntKind.signed]
  omega

theorem splice_full {vcs cs : List AV} (h : vcs.length = cs.length) : splice 0 vcs cs = vcs := by
  rw [splice_eq (by omega)]
  simp [h]

/-- What may stand for another value. -/
def RepLe (a b : AV) : Prop := ∀ (e : Env) (v : Value), Rep e a v → Rep e b v

theorem RepLe.refl (a : AV) : RepLe a a := fun _ _ h => h
theorem RepLe.nil {z z' : Nat} : RepLe (.sl .nil z []) (.sl .nil z' []) := fun e v h => by
  rcases rep_sl_inv h with ⟨_, _, rfl⟩ | ⟨h0, _⟩ | ⟨h0, _⟩
  · exact .slNil z'
  · exact absurd rfl h0
  · exact absurd rfl h0

section
variable {P : Program}

theorem ACall.conv {f : FuncId} {args args' : List AV} {H : AHeap} {N : Nat} {Q : AV → AHeap → Nat → Prop} (h : ACall P f args' H N Q) (hl : args.length = args'.length) (hr : ∀ (i : Nat) (a b : AV), args[i]? = some a → args'[i]? = some b → RepLe a b) :
    ACall P f args H N Q :=
  ⟨h.1, fun e vs h1 h2 h3 h4 => h.2 e vs h1 h2 (h3.trans hl) (fun i c v hc hv => by
    have hi : i < args'.length := (List.getElem?_eq_some_iff.1 hc).1
    have ha : args[i]? = some (args[i]'(by omega)) := by simp [show i < args.length by omega]
    exact hr i _ c ha hc e v (h4 i _ v ha hv))⟩
end

/-- A pointer to cells. -/
def PtTo (H : AHeap) (p : AV) (cs : List AV) : Prop := p = .ip cs 0 ∨ ∃ (id off : Nat) (ds : List AV), p = .mp id off ∧ H id = some (.blk ds) ∧ off + cs.length ≤ ds.length ∧ (ds.drop off).take cs.length = cs

theorem PtTo.load {H : AHeap} {p : AV} {cs : List AV} (h : PtTo H p cs) : aload H true cs.length p = some (.agg cs) := by
  rcases h with rfl | ⟨id, off, ds, rfl, h1, h2, h3⟩
  · simp [aload, apart]
  · simp [aload, apart, h1, h2, h3]

theorem PtTo.cell {H : AHeap} {p : AV} {cs : List AV} (h : PtTo H p cs) {k : Nat} {c : AV} (hk : cs[k]? = some c) : ∃ q, afield k p = some q ∧ aload H false 1 q = some c := by
  have hlt : k < cs.length := (List.getElem?_eq_some_iff.1 hk).1
  rcases h with rfl | ⟨id, off, ds, rfl, h1, h2, h3⟩
  · exact ⟨.ip cs k, by simp [afield], by simp [aload, apart, hk]⟩
  · refine ⟨.mp id (off + k), by simp [afield], ?_⟩
    have : ds[off + k]? = some c := by
      rw [← h3, List.getElem?_take, if_pos hlt, List.getElem?_drop] at hk
      exact hk
    simp [aload, apart, h1, this]

theorem PtTo.one {H : AHeap} {p c : AV} (h : PtTo H p [c]) : aload H false 1 p = some c := by
  rcases h with rfl | ⟨id, off, ds, rfl, h1, h2, h3⟩
  · simp [aload, apart]
  · have : ds[off]? = some c := by
      have hk : ([c] : List AV)[0]? = some c := rfl
      rw [← h3, List.getElem?_take, if_pos (by simp), List.getElem?_drop] at hk
      simpa using hk
    simp [aload, apart, h1, this]

/-- A slice that reads as these elements. -/
def RdSl (H : AHeap) (sz : Nat) (es : List (List AV)) (a : AV) : Prop :=
  (∃ k z, a = .sl k z es ∧ (z = sz ∨ es = [])) ∨ ∃ (id off : Nat) (ds : List AV), a = .ms id off es.length sz ∧ (es = [] ∨ H id = some (.blk ds) ∧ off + es.length * sz ≤ ds.length ∧ (ds.drop off).take (es.length * sz) = es.flatten)

theorem RdSl.sl {H : AHeap} {sz : Nat} {es : List (List AV)} (k : SK) : RdSl H sz es (.sl k sz es) := .inl ⟨k, sz, rfl, .inl rfl⟩
theorem RdSl.nil {H : AHeap} {sz : Nat} (k : SK) (z : Nat) : RdSl H sz [] (.sl k z []) := .inl ⟨k, z, rfl, .inr rfl⟩
theorem RdSl.ms {H : AHeap} {sz id : Nat} {es : List (List AV)} (h : H id = some (.blk es.flatten)) (hsz : es.flatten.length = es.length * sz) : RdSl H sz es (.ms id 0 es.length sz) :=
  .inr ⟨id, 0, es.flatten, rfl, .inr ⟨h, by omega, by rw [List.drop_zero, ← hsz, List.take_length]⟩⟩

theorem RdSl.len {H : AHeap} {sz : Nat} {es : List (List AV)} {a : AV} (h : RdSl H sz es a) : alen 1 a = some (es.length : Int) := by
  rcases h with ⟨k, z, rfl, _⟩ | ⟨id, off, ds, rfl, _⟩ <;> rfl

theorem flatten_at {sz : Nat} : ∀ {es : List (List AV)}, (∀ x ∈ es, x.length = sz) → ∀ {i : Nat} {x : List AV}, es[i]? = some x → (es.flatten.drop (i * sz)).take sz = x
  | [], _, i, x, h => by simp at h
  | y :: es, hs, 0, x, h => by
    simp at h; subst h
    have := hs y (by simp)
    simp [← this]
  | y :: es, hs, i + 1, x, h => by
    have hy := hs y (by simp)
    have := flatten_at (es := es) (fun z hz => hs z (by simp [hz])) (i := i) (x := x) (by simpa using h)
    rw [List.flatten_cons, Nat.add_mul, Nat.one_mul, Nat.add_comm, ← List.drop_drop, List.drop_left' hy]
    exact this

theorem RdSl.at {H : AHeap} {sz : Nat} {es : List (List AV)} {a : AV} (h : RdSl H sz es a) (hs : ∀ x ∈ es, x.length = sz) {i : Nat} {x : List AV} (hi : es[i]? = some x) : ∃ p, aindex sz a (i64 i) = some p ∧ PtTo H p x := by
  have hlt : i < es.length := (List.getElem?_eq_some_iff.1 hi).1
  have hx : es[i] = x := (List.getElem?_eq_some_iff.1 hi).2
  have hne : es ≠ [] := by intro h0; rw [h0] at hlt; simp at hlt
  rcases h with ⟨k, z, rfl, hz⟩ | ⟨id, off, ds, rfl, hm⟩
  · have hz' : z = sz := hz.resolve_right hne
    subst hz'
    exact ⟨.ip x 0, by simp [aindex, hlt, hx], .inl rfl⟩
  · obtain ⟨h1, h2, h3⟩ := hm.resolve_left hne
    have hxl := hs x (List.mem_of_getElem? hi)
    have hle : i * sz + sz ≤ es.length * sz := by rw [← Nat.succ_mul]; exact Nat.mul_le_mul_right _ hlt
    refine ⟨.mp id (off + i * sz), by simp [aindex, hlt], .inr ⟨id, off + i * sz, ds, rfl, h1, by omega, ?_⟩⟩
    have h4 := flatten_at hs hi
    rw [← h3] at h4
    rw [hxl]
    rw [List.drop_take, List.take_take, List.drop_drop, Nat.min_eq_left (by omega)] at h4
    exact h4

/-- A slice of its own, that grows: behind 'lo' lies what is of its own; 'z' it is at first. -/
def Built (H : AHeap) (lo sz : Nat) (z : AV) (es : List (List AV)) (v : AV) : Prop :=
  (∀ x ∈ es, x.length = sz) ∧ ((es = [] ∧ v = z ∧ ((∃ k, z = .sl .exact k []) ∨ ∃ k, z = .sl .nil k [])) ∨ (es ≠ [] ∧ ∃ id, lo ≤ id ∧ v = .ms id 0 es.length sz ∧ H id = some (.blk es.flatten)))

theorem Built.empty {H : AHeap} {lo sz k : Nat} : Built H lo sz (.sl .exact k []) [] (.sl .exact k []) := ⟨by simp, .inl ⟨rfl, rfl, .inl ⟨k, rfl⟩⟩⟩
theorem Built.nil {H : AHeap} {lo sz k : Nat} : Built H lo sz (.sl .nil k []) [] (.sl .nil k []) := ⟨by simp, .inl ⟨rfl, rfl, .inr ⟨k, rfl⟩⟩⟩

theorem flatten_len {sz : Nat} : ∀ {es : List (List AV)}, (∀ x ∈ es, x.length = sz) → es.flatten.length = es.length * sz := length_flatten_eq

theorem Built.rd {H : AHeap} {lo sz : Nat} {z : AV} {es : List (List AV)} {v : AV} (h : Built H lo sz z es v) : RdSl H sz es v := by
  obtain ⟨hs, ⟨rfl, rfl, ⟨k, rfl⟩ | ⟨k, rfl⟩⟩ | ⟨_, id, _, rfl, h2⟩⟩ := h
  · exact .nil _ _
  · exact .nil _ _
  · exact .ms h2 (flatten_len hs)

theorem RdSl.cells {H : AHeap} {sz : Nat} {es : List (List AV)} {v : AV} (h : RdSl H sz es v) : v.cells = some [v] := by
  rcases h with ⟨k, z, rfl, _⟩ | ⟨id, off, ds, rfl, _⟩ <;> rfl

theorem Built.keep {H H' : AHeap} {lo sz : Nat} {z : AV} {es : List (List AV)} {v : AV} (h : Built H lo sz z es v) (hk : ∀ j, lo ≤ j → H' j = H j) : Built H' lo sz z es v := by
  obtain ⟨b1, b2⟩ := h
  refine ⟨b1, b2.imp id ?_⟩
  rintro ⟨hne, id, hid, rfl, hH⟩
  exact ⟨hne, id, hid, rfl, by rw [hk id hid, hH]⟩

/-- Something appended. -/
theorem Built.append {H : AHeap} {lo sz N bytes : Nat} {z : AV} {es ns : List (List AV)} {v y : AV} (h : Built H lo sz z es v) (hf : Fresh H N) (hlo : lo ≤ N) (hsrc : asrc H sz y = some (ns.flatten, ns.length)) (hns : ∀ x ∈ ns, x.length = sz)
    (hlim : (es.length + ns.length) * bytes ≤ lim) (hlim2 : es.length + ns.length ≤ 9223372036854775807) :
    ∃ v' H' N', aappend false sz bytes H N v y = some (v', H', N') ∧ Built H' lo sz z (es ++ ns) v' ∧ (∀ j, j < lo → H' j = H j) ∧ N ≤ N' ∧ Fresh H' N' := by
  obtain ⟨hs, hv⟩ := h
  have hall : ∀ x ∈ es ++ ns, x.length = sz := fun x hx => (List.mem_append.1 hx).elim (hs x) (hns x)
  rcases hv with ⟨rfl, rfl, hz⟩ | ⟨hne, id, hid, rfl, hH⟩
  · by_cases hn0 : ns.length = 0
    · have hn : ns = [] := List.eq_nil_of_length_eq_zero hn0
      subst hn
      refine ⟨v, H, N, ?_, ⟨by simp, .inl ⟨rfl, rfl, hz⟩⟩, fun _ _ => rfl, Nat.le_refl _, hf⟩
      rcases hz with ⟨k, rfl⟩ | ⟨k, rfl⟩ <;> simp [aappend, hsrc, -asrc]
    · have hnn : ns ≠ [] := by intro h0; rw [h0] at hn0; simp at hn0
      refine ⟨.ms N 0 ns.length sz, H.set N (.blk ns.flatten), N + 1, ?_, ⟨by simpa using hns, .inr ⟨by simpa using hnn, N, hlo, by simp, by simp [AHeap.set]⟩⟩, fun j hj => ?_, Nat.le_succ _, hf.set _⟩
      · simp at hlim hlim2
        rcases hz with ⟨k, rfl⟩ | ⟨k, rfl⟩ <;> simp [aappend, hsrc, hn0, hlim, hlim2, -asrc]
      · simp only [AHeap.set]; rw [if_neg (by omega)]
  · have hidN : id < N := hf.lt hH
    refine ⟨.ms N 0 (es.length + ns.length) sz, (H.del id).set N (.blk (es.flatten ++ ns.flatten)), N + 1, ?_, ⟨hall, .inr ⟨by simp [hne], N, hlo, by simp, by simp [AHeap.set]⟩⟩, fun j hj => ?_, Nat.le_succ _, ?_⟩
    · have hfl := flatten_len hs
      simp only [aappend, hsrc, hH]
      have hc : True ∧ 0 + es.length * sz ≤ es.flatten.length ∧ (es.length + ns.length) * bytes ≤ lim ∧ es.length + ns.length ≤ 9223372036854775807 := ⟨trivial, by omega, hlim, hlim2⟩
      rw [if_pos hc, List.drop_zero, ← hfl, List.take_length]
    · simp only [AHeap.set, AHeap.del]; rw [if_neg (by omega), if_neg (by omega)]
    · intro j hj
      simp only [AHeap.set, AHeap.del]
      rw [if_neg (by omega)]
      split
      · rfl
      · exact hf j (by omega)

/-- One more. -/
theorem Built.push {H : AHeap} {lo sz N bytes : Nat} {z : AV} {es : List (List AV)} {x : List AV} {v : AV} {k : SK} (h : Built H lo sz z es v) (hf : Fresh H N) (hlo : lo ≤ N) (hx : x.length = sz)
    (hlim : (es.length + 1) * bytes ≤ lim) (hlim2 : es.length + 1 ≤ 9223372036854775807) :
    ∃ v' H' N', aappend false sz bytes H N v (.sl k sz [x]) = some (v', H', N') ∧ Built H' lo sz z (es ++ [x]) v' ∧ (∀ j, j < lo → H' j = H j) ∧ N ≤ N' ∧ Fresh H' N' :=
  h.append hf hlo (ns := [x]) (by simp [asrc]) (by simpa using hx) hlim hlim2

/-- What a slice that grew reads as when nobody writes it any more. -/
def bsl (z : AV) (sz : Nat) (es : List (List AV)) : AV := match es with
  | [] => z
  | es => .sl .any sz es

theorem chunks_flatten {sz : Nat} : ∀ {es : List (List AV)}, (∀ x ∈ es, x.length = sz) → chunks sz es.length es.flatten = es
  | [], _ => rfl
  | x :: es, hs => by
    have hx := hs x (by simp)
    have ih := chunks_flatten (es := es) fun y hy => hs y (by simp [hy])
    simp only [List.length_cons, chunks, List.flatten_cons]
    rw [List.take_left' hx, List.drop_left' hx, ih]

theorem Built.src {H : AHeap} {lo sz : Nat} {z : AV} {es : List (List AV)} {v : AV} (h : Built H lo sz z es v) : asrc H sz v = some (es.flatten, es.length) := by
  obtain ⟨hs, ⟨rfl, rfl, ⟨k, rfl⟩ | ⟨k, rfl⟩⟩ | ⟨_, id, _, rfl, h2⟩⟩ := h
  · simp [asrc]
  · simp [asrc]
  · have := flatten_len hs
    simp only [asrc, h2]
    rw [if_pos ⟨trivial, by omega⟩, List.drop_zero, ← this, List.take_length]

theorem Built.view {H : AHeap} {lo sz : Nat} {z : AV} {es : List (List AV)} {v : AV} (h : Built H lo sz z es v) (hfree : freeLL es = true) : View H v (bsl z sz es) := by
  obtain ⟨hs, ⟨rfl, rfl, hz⟩ | ⟨hne, id, _, rfl, h2⟩⟩ := h
  · rcases hz with ⟨k, rfl⟩ | ⟨k, rfl⟩ <;> exact .free rfl
  · have hb : bsl z sz es = .sl .any sz es := by cases es with | nil => exact absurd rfl hne | cons => rfl
    rw [hb]
    have hff : freeL es.flatten = true := by
      clear h2 hne hs hb
      induction es with
      | nil => rfl
      | cons x es ih =>
        simp only [freeLL, Bool.and_eq_true] at hfree
        have app : ∀ (a b : List AV), freeL a = true → freeL b = true → freeL (a ++ b) = true := fun a b ha hb => by
          induction a with
          | nil => exact hb
          | cons y a ih => simp only [List.cons_append, freeL, Bool.and_eq_true] at ha ⊢; exact ⟨ha.1, ih ha.2⟩
        exact app _ _ hfree.1 (ih hfree.2)
    have := View.ms' (H := H) (sz := sz) (len := es.length) h2 (by rw [flatten_len hs]; exact Nat.le_refl _) (ViewL.refl hff)
    rw [chunks_flatten hs] at this
    exact this

theorem bsl_rd {H : AHeap} {sz : Nat} {z : AV} {es : List (List AV)} (hz : ∃ k n, z = .sl k n []) : RdSl H sz es (bsl z sz es) := by
  cases es with
  | nil => obtain ⟨k, n, rfl⟩ := hz; exact .nil _ _
  | cons x es => exact .sl _

end Go.Fw
