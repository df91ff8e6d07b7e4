/- The framework: F1, F2, F3, F4, F5, F6, F7, F8, F9. -/
import Derived.WalkKit
import Derived.WalkSpells
import Derived.WalkLawsBesides
import Derived.Deep.LoopGhost
import Derived.Orders
import Derived.KernelRfl
import Derived.RangeFuncRecord
import Derived.OrdersIn
import Derived.TacticsIn
/- Framework, part 1: abstract values, what they stand for in a world, and how that is kept. -/
namespace Go.Fw
set_option linter.unusedSimpArgs false
set_option linter.unusedVariables false
open Go
set_option linter.unusedSectionVars false

/-- What is known of a slice that nobody writes any more: nil; its capacity is its length; nothing of its capacity. -/
inductive SK where
  | nil | exact | any
  deriving DecidableEq, Repr

/-- Abstract values. -/
inductive AV where
  | lit (v : Value)
  | agg (cs : List AV)
  | tup (cs : List AV)
  | sl (k : SK) (sz : Nat) (es : List (List AV))
  | ip (cs : List AV) (off : Nat)
  | mp (id off : Nat)
  | ms (id off len sz : Nat)
  | mm (id : Nat)
  | fn (f : Fn) (first capt : List AV)
  | ifc (t : TypeId) (a : AV)
  | yl (id : Nat)
  | junk
  deriving Inhabited

/-- What package-level variables hold that nobody writes: their cells. -/
class Globals where
  tbl : Nat → Option (List AV)

variable [Globals]

/-- The ghost side of a world: which blocks nobody writes any more, where the abstract objects lie, how many numbers have been given. -/
structure Env where
  w : World
  I : Nat → Prop
  ρ : Nat → Nat × Nat
  N : Nat

inductive Rep (e : Env) : AV → Value → Prop where
  | lit (v : Value) : Rep e (.lit v) v
  | agg {cs : List AV} {vs : List Value} (hl : vs.length = cs.length) (h1 : ∀ v ∈ vs, v.oneCell' = true) (h : ∀ (i : Nat) (c : AV) (v : Value), cs[i]? = some c → vs[i]? = some v → Rep e c v) : Rep e (.agg cs) (.agg vs.toArray)
  | tup {cs : List AV} {vs : List Value} (hl : vs.length = cs.length) (h : ∀ (i : Nat) (c : AV) (v : Value), cs[i]? = some c → vs[i]? = some v → Rep e c v) : Rep e (.tup cs) (.tuple vs.toArray)
  | slNil (sz : Nat) : Rep e (.sl .nil sz []) (.slice none 0 0)
  | sl {k : SK} {sz : Nat} {es : List (List AV)} {b o cap : Nat} (u : Nat → Nat → Value) (hk : k ≠ .nil) (hI : es ≠ [] → e.I b) (hcap : es.length ≤ cap) (hex : k = .exact → cap = es.length)
      (hsz : ∀ x ∈ es, x.length = sz)
      (hc : ∀ (i j : Nat) (x : List AV) (c : AV), es[i]? = some x → x[j]? = some c → e.w.cell? ⟨b, o + i * sz + j, none⟩ = some (u i j))
      (h1 : ∀ (i j : Nat) (x : List AV) (c : AV), es[i]? = some x → x[j]? = some c → (u i j).oneCell' = true)
      (hr : ∀ (i j : Nat) (x : List AV) (c : AV), es[i]? = some x → x[j]? = some c → Rep e c (u i j)) : Rep e (.sl k sz es) (.slice (some ⟨b, o, none⟩) es.length cap)
  | slE {k : SK} {sz : Nat} {ad : Addr} (hk : k ≠ .nil) : Rep e (.sl k sz []) (.slice (some ad) 0 0)
  | ip {cs : List AV} {off b o : Nat} (u : Nat → Value) (hI : e.I b)
      (hc : ∀ (j : Nat) (c : AV), cs[j]? = some c → e.w.cell? ⟨b, o + j, none⟩ = some (u j))
      (h1 : ∀ (j : Nat) (c : AV), cs[j]? = some c → (u j).oneCell' = true)
      (hr : ∀ (j : Nat) (c : AV), cs[j]? = some c → Rep e c (u j)) : Rep e (.ip cs off) (.pointer (some ⟨b, o + off, none⟩))
  | mp {id off : Nat} (h : id < e.N) : Rep e (.mp id off) (.pointer (some ⟨(e.ρ id).1, (e.ρ id).2 + off, none⟩))
  | ms {id off len sz cap : Nat} {ad : Addr} (h : id < e.N) (hlen : len ≤ cap)
      (hroom : cap = 0 ∨ (ad = ⟨(e.ρ id).1, (e.ρ id).2 + off, none⟩ ∧ ∃ (c : Array Value) (t : TypeId) (fz : Nat × Nat), e.w.heap[(e.ρ id).1]? = some (.cells c t fz) ∧ (e.ρ id).2 + off + cap * sz ≤ c.size))
      (hsp : ad.spot = none := by first | rfl | assumption) : Rep e (.ms id off len sz) (.slice (some ad) len cap)
  | mm {id : Nat} (h : id < e.N) : Rep e (.mm id) (.map (some (e.ρ id).1))
  | fn {f : Fn} {first capt : List AV} {fs cs : List Value} (hf : fs.length = first.length) (hc : cs.length = capt.length)
      (h1 : ∀ (i : Nat) (c : AV) (v : Value), first[i]? = some c → fs[i]? = some v → Rep e c v) (h2 : ∀ (i : Nat) (c : AV) (v : Value), capt[i]? = some c → cs[i]? = some v → Rep e c v) :
      Rep e (.fn f first capt) (.func f fs.toArray cs.toArray)
  | ifc {t : TypeId} {a : AV} {v : Value} (h : Rep e a v) : Rep e (.ifc t a) (.iface t v)
  | yl {id : Nat} (h : id < e.N) : Rep e (.yl id) (.func (.yield (e.ρ id).1) #[] #[])
  | junk (v : Value) : Rep e .junk v

/-- How a world may go on: what nobody writes stays; blocks keep their shape. -/
structure Ext (e e' : Env) : Prop where
  I : ∀ b, e.I b → e'.I b
  imm : ∀ b, e.I b → e'.w.heap[b]? = e.w.heap[b]?
  ρ : ∀ id, id < e.N → e'.ρ id = e.ρ id
  N : e.N ≤ e'.N
  shape : ∀ (b : Nat) (c : Array Value) (t : TypeId) (fz : Nat × Nat), e.w.heap[b]? = some (.cells c t fz) → ∃ (c' : Array Value) (fz' : Nat × Nat), e'.w.heap[b]? = some (.cells c' t fz') ∧ c'.size = c.size

theorem Ext.refl (e : Env) : Ext e e := ⟨fun _ h => h, fun _ _ => rfl, fun _ _ => rfl, Nat.le_refl _, fun _ c _ fz h => ⟨c, fz, h, rfl⟩⟩

theorem Ext.trans {a b c : Env} (h : Ext a b) (k : Ext b c) : Ext a c where
  I := fun x hx => k.I x (h.I x hx)
  imm := fun x hx => (k.imm x (h.I x hx)).trans (h.imm x hx)
  ρ := fun id hi => (k.ρ id (Nat.lt_of_lt_of_le hi h.N)).trans (h.ρ id hi)
  N := Nat.le_trans h.N k.N
  shape := fun x cs t fz hx => by
    obtain ⟨c1, f1, h1, s1⟩ := h.shape x cs t fz hx
    obtain ⟨c2, f2, h2, s2⟩ := k.shape x c1 t f1 h1
    exact ⟨c2, f2, h2, s2.trans s1⟩

theorem cell_of_block {w w' : World} {a : Addr} (h : w'.heap[a.block]? = w.heap[a.block]?) : w'.cell? a = w.cell? a := by
  simp [World.cell?, h]

theorem Rep.ext {e e' : Env} (x : Ext e e') {a : AV} {v : Value} (h : Rep e a v) : Rep e' a v := by
  induction h with
  | lit v => exact .lit v
  | agg hl h1 _ ih => exact .agg hl h1 ih
  | tup hl _ ih => exact .tup hl ih
  | slNil sz => exact .slNil sz
  | slE hk => exact .slE hk
  | sl u hk hI hcap hex hsz hc g1 _ ih =>
    refine .sl u hk (fun hne => x.I _ (hI hne)) hcap hex hsz (fun i j y c h1 h2 => ?_) g1 ih
    rw [cell_of_block (x.imm _ (hI (fun hne => by rw [hne] at h1; simp at h1)))]
    exact hc i j y c h1 h2
  | ip u hI hc g1 _ ih =>
    refine .ip u (x.I _ hI) (fun j c h1 => ?_) g1 ih
    rw [cell_of_block (x.imm _ hI)]
    exact hc j c h1
  | mp h => rw [← x.ρ _ h]; exact .mp (Nat.lt_of_lt_of_le h x.N)
  | ms h hl hroom hsp =>
    refine .ms (Nat.lt_of_lt_of_le h x.N) hl ?_ hsp
    rcases hroom with h0 | ⟨had, c, t, fz, h1, h2⟩
    · exact .inl h0
    · obtain ⟨c', fz', h1', h2'⟩ := x.shape _ c t fz h1
      rw [x.ρ _ h]
      exact .inr ⟨had, c', t, fz', h1', by rw [h2']; exact h2⟩
  | mm h => rw [← x.ρ _ h]; exact .mm (Nat.lt_of_lt_of_le h x.N)
  | fn hf hc _ _ i1 i2 => exact .fn hf hc i1 i2
  | ifc _ ih => exact .ifc ih
  | yl h => rw [← x.ρ _ h]; exact .yl (Nat.lt_of_lt_of_le h x.N)
  | junk v => exact .junk v

/-- What lies at a number of the abstract heap. -/
inductive AObj where
  | blk (cs : List AV)
  | map (es : List (Value × AV))
  | loop (r : Loop) (A : Nat → AV)
  deriving Inhabited

abbrev AHeap := Nat → Option AObj

def ORep (e : Env) (b base : Nat) : AObj → Prop
  | .blk cs => ∃ (c : Array Value) (t : TypeId), e.w.heap[b]? = some (.cells c t (0, 0)) ∧ base + cs.length ≤ c.size ∧ ∀ (j : Nat) (a : AV), cs[j]? = some a → ∃ u, c[base + j]? = some u ∧ u.oneCell' = true ∧ Rep e a u
  | .map es => ∃ (ents : Array MapEntry) (clock : Nat), e.w.heap[b]? = some (.map ents clock) ∧ ents.size = es.length ∧ (∀ i : Nat, (ents[i]?).map (·.key) = (es[i]?).map (·.1)) ∧
      (∀ (i : Nat) (k : Value) (a : AV) (x : MapEntry), es[i]? = some (k, a) → ents[i]? = some x → Rep e a x.val) ∧ MapKept.Stamped ents clock
  | .loop r A => e.w.heap[b]? = some (.loop r) ∧ ∀ t : Nat, Rep e (A t) (r.tmps.getD t undef)

/-- The package-level variables hold what they are told to. -/
def GlobOk (e : Env) : Prop := ∀ g cs, Globals.tbl g = some cs → Rep e (.ip cs 0) (.pointer (some ⟨g, 0, none⟩))

theorem GlobOk.ext {e e' : Env} (h : GlobOk e) (x : Ext e e') : GlobOk e' := fun g cs hg => (h g cs hg).ext x

structure HRep (e : Env) (H : AHeap) : Prop where
  at_ : ∀ id o, H id = some o → id < e.N ∧ ¬ e.I (e.ρ id).1 ∧ ORep e (e.ρ id).1 (e.ρ id).2 o
  inj : ∀ i j o o', H i = some o → H j = some o' → (e.ρ i).1 = (e.ρ j).1 → i = j
  imm : ∀ b, e.I b → b < e.w.heap.size
  gl : GlobOk e

def Own (e : Env) (H : AHeap) (b : Nat) : Prop := ∃ id o, H id = some o ∧ (e.ρ id).1 = b

theorem ORep.lt {e : Env} {b base : Nat} {o : AObj} (h : ORep e b base o) : b < e.w.heap.size := by
  cases o with
  | blk cs => obtain ⟨c, t, h1, _⟩ := h; exact (Array.getElem?_eq_some_iff.1 h1).1
  | map es => obtain ⟨c, t, h1, _⟩ := h; exact (Array.getElem?_eq_some_iff.1 h1).1
  | loop r A => exact (Array.getElem?_eq_some_iff.1 h.1).1

theorem HRep.own_lt {e : Env} {H : AHeap} (h : HRep e H) {b : Nat} (hb : Own e H b) : b < e.w.heap.size := by
  obtain ⟨id, o, h1, h2⟩ := hb
  rw [← h2]
  exact (h.at_ id o h1).2.2.lt

theorem HRep.own_imm {e : Env} {H : AHeap} (h : HRep e H) {b : Nat} (hb : Own e H b) : ¬ e.I b := by
  obtain ⟨id, o, h1, h2⟩ := hb
  rw [← h2]
  exact (h.at_ id o h1).2.1

/-- What a piece of a run does: the step relation on worlds with their ghost sides. -/
structure Tr (e : Env) (H : AHeap) (e' : Env) (H' : AHeap) : Prop where
  ext : Ext e e'
  fr : ∀ b, b < e.w.heap.size → ¬ Own e H b → e'.w.heap[b]? = e.w.heap[b]?
  own : ∀ b, Own e' H' b → Own e H b ∨ e.w.heap.size ≤ b
  im : ∀ b, e'.I b → e.I b ∨ Own e H b ∨ e.w.heap.size ≤ b
  size : e.w.heap.size ≤ e'.w.heap.size
  os : e'.w.os = e.w.os
  tape : e'.w.tape = e.w.tape
  output : e'.w.output = e.w.output

theorem Tr.refl (e : Env) (H : AHeap) : Tr e H e H :=
  ⟨.refl e, fun _ _ _ => rfl, fun _ h => .inl h, fun _ h => .inl h, Nat.le_refl _, rfl, rfl, rfl⟩

theorem Tr.trans {a b c : Env} {H K L : AHeap} (h : Tr a H b K) (k : Tr b K c L) : Tr a H c L where
  ext := h.ext.trans k.ext
  fr := fun x hx hn => by
    rw [k.fr x (Nat.lt_of_lt_of_le hx h.size) (fun hk => by rcases h.own x hk with h1 | h1; exact hn h1; omega)]
    exact h.fr x hx hn
  own := fun x hx => by
    rcases k.own x hx with h1 | h1
    · exact h.own x h1
    · exact .inr (Nat.le_trans h.size h1)
  im := fun x hx => by
    rcases k.im x hx with h1 | h1 | h1
    · exact h.im x h1
    · rcases h.own x h1 with h2 | h2
      · exact .inr (.inl h2)
      · exact .inr (.inr h2)
    · exact .inr (.inr (Nat.le_trans h.size h1))
  size := Nat.le_trans h.size k.size
  os := k.os.trans h.os
  tape := k.tape.trans h.tape
  output := k.output.trans h.output

/-- The abstract state. -/
structure St where
  A : Nat → AV
  H : AHeap
  N : Nat

def St.put (s : St) (d : Option Nat) (v : AV) : St :=
  match d with
  | some d => { s with A := fun t => if t = d then v else s.A t }
  | none => s

/-- A cell that is a constant. -/
def cAV1 : Value → AV
  | .slice none 0 0 => .sl .nil 0 []
  | v => .lit v

/-- A constant. -/
def cAV : Value → AV
  | .agg cs => if cs.toList.all Value.oneCell' then .agg (cs.toList.map cAV1) else .lit (.agg cs)
  | v => cAV1 v

theorem rep_cAV1 (e : Env) (v : Value) : Rep e (cAV1 v) v := by
  unfold cAV1
  split
  · exact .slNil 0
  · exact .lit _

theorem rep_cAV (e : Env) (v : Value) : Rep e (cAV v) v := by
  unfold cAV
  split
  · rename_i cs
    split
    · rename_i h
      refine .agg (vs := cs.toList) (by simp) (fun v hv => List.all_eq_true.1 h v hv) (fun i c v h1 h2 => ?_)
      simp only [List.getElem?_map, h2, Option.map_some, Option.some.injEq] at h1
      rw [← h1]
      exact rep_cAV1 e v
    · exact .lit _
  · exact rep_cAV1 e v

/-- Operands, compiled. -/
inductive AX where
  | tmp (t : Nat)
  | val (a : AV)
  | glob (g : Nat)
  deriving Inhabited

def cX : Operand → AX
  | .tmp t => .tmp t
  | .const v => .val (cAV v)
  | .global g => .glob g
  | .func f => .val (.fn (.func f) [] [])

/-- Where a package-level variable lies. -/
def gptr (g : Nat) : AV := match Globals.tbl g with
  | some cs => .ip cs 0
  | none => .lit (.pointer (some ⟨g, 0, none⟩))

def St.ev (s : St) : AX → AV
  | .tmp t => s.A t
  | .val a => a
  | .glob g => gptr g

structure Gam (e : Env) (n : Nat) (s : St) (a : Act) : Prop where
  N : e.N = s.N
  H : HRep e s.H
  size : a.tmps.size = n
  tm : ∀ t, Rep e (s.A t) (a.tmps.getD t undef)

theorem Gam.ev {e : Env} {n : Nat} {s : St} {a : Act} (g : Gam e n s a) (x : Operand) : Rep e (s.ev (cX x)) (a.eval x) := by
  cases x with
  | tmp t => exact g.tm t
  | const v => exact rep_cAV e v
  | global x =>
    simp only [cX, St.ev, gptr]
    split
    · rename_i cs hcs; exact g.H.gl x cs hcs
    · exact .lit _
  | func f => exact .fn (fs := []) (cs := []) rfl rfl (fun i c v h => by simp at h) (fun i c v h => by simp at h)

theorem getD_set (a : Array Value) (d t : Nat) (v : Value) (hd : d < a.size) : (a.setIfInBounds d v).getD t undef = if t = d then v else a.getD t undef := by
  by_cases h : t = d
  · subst h; simp [hd]
  · simp only [Array.getD_eq_getD_getElem?, Array.getElem?_setIfInBounds, if_neg h, if_neg (fun h' => h (Eq.symm h') : ¬ d = t)]

/-- One temporary written. -/
theorem Gam.put {e : Env} {n : Nat} {s : St} {a : Act} (g : Gam e n s a) {d : Option Nat} (hd : ∀ x, d = some x → x < n) {av : AV} {v : Value} (h : Rep e av v) :
    Gam e n (s.put d av) (a.put d v) := by
  cases d with
  | none => exact g
  | some d =>
    have hd' := hd d rfl
    refine ⟨g.N, g.H, by simp [Act.put, g.size], fun t => ?_⟩
    simp only [St.put, Act.put]
    rw [getD_set _ _ _ _ (by rw [g.size]; exact hd')]
    split
    · exact h
    · exact g.tm t

/-- The same temporaries in a later world. -/
theorem Gam.move {e e' : Env} {n : Nat} {s : St} {a : Act} (g : Gam e n s a) (x : Ext e e') {H' : AHeap} (hH : HRep e' H') : Gam e' n { s with H := H', N := e'.N } a :=
  ⟨rfl, hH, g.size, fun t => (g.tm t).ext x⟩

end Go.Fw

/- Framework, part 2: how the ghost side goes on with a new block, a store, a draw. -/
namespace Go.Fw
set_option linter.unusedSimpArgs false
set_option linter.unusedVariables false
open Go
set_option linter.unusedSectionVars false
variable [Globals]

theorem ORep.ext {e e' : Env} (x : Ext e e') {b base : Nat} (hb : e'.w.heap[b]? = e.w.heap[b]?) {o : AObj} (h : ORep e b base o) : ORep e' b base o := by
  cases o with
  | blk cs =>
    obtain ⟨c, t, h1, h2, h3⟩ := h
    refine ⟨c, t, by rw [hb]; exact h1, h2, fun j a ha => ?_⟩
    obtain ⟨u, h4, h5, h6⟩ := h3 j a ha
    exact ⟨u, h4, h5, h6.ext x⟩
  | map es =>
    obtain ⟨c, t, h1, h2, h3, h4, h5⟩ := h
    refine ⟨c, t, by rw [hb]; exact h1, h2, h3, fun i k a y ha hy => ?_, h5⟩
    exact (h4 i k a y ha hy).ext x
  | loop r A => exact ⟨hb.trans h.1, fun t => (h.2 t).ext x⟩

theorem HRep.keep {e e' : Env} {H : AHeap} (h : HRep e H) (x : Ext e e') (hk : ∀ id o, H id = some o → e'.w.heap[(e.ρ id).1]? = e.w.heap[(e.ρ id).1]?)
    (hI : ∀ b, e'.I b → e.I b ∨ e.w.heap.size ≤ b) (hlt : ∀ b, e'.I b → b < e'.w.heap.size) : HRep e' H where
  at_ := fun id o ho => by
    obtain ⟨h1, h2, h3⟩ := h.at_ id o ho
    rw [x.ρ id h1]
    refine ⟨Nat.lt_of_lt_of_le h1 x.N, fun hb => ?_, h3.ext x (hk id o ho)⟩
    rcases hI _ hb with h4 | h4
    · exact h2 h4
    · have := h3.lt; omega
  inj := fun i j o o' hi hj hij => by
    rw [x.ρ i (h.at_ i o hi).1, x.ρ j (h.at_ j o' hj).1] at hij
    exact h.inj i j o o' hi hj hij
  imm := hlt
  gl := h.gl.ext x

def AHeap.set (H : AHeap) (id : Nat) (o : AObj) : AHeap := fun i => if i = id then some o else H i
def AHeap.del (H : AHeap) (id : Nat) : AHeap := fun i => if i = id then none else H i

def Env.allocI (e : Env) (o : Obj) : Env := { e with w := e.w.alloc o, I := fun b => e.I b ∨ b = e.w.heap.size }
def Env.allocO (e : Env) (o : Obj) : Env := { w := e.w.alloc o, I := e.I, ρ := fun i => if i = e.N then (e.w.heap.size, 0) else e.ρ i, N := e.N + 1 }
def Env.drew (e : Env) : Env := { e with w := e.w.drew }

theorem lt_of_heap {w : World} {b : Nat} {o : Obj} (h : w.heap[b]? = some o) : b < w.heap.size := (Array.getElem?_eq_some_iff.1 h).1

theorem ext_allocI (e : Env) (o : Obj) (hi : ∀ b, e.I b → b < e.w.heap.size) : Ext e (e.allocI o) where
  I := fun _ h => .inl h
  imm := fun b h => heap_alloc_old _ _ (hi b h)
  ρ := fun _ _ => rfl
  N := Nat.le_refl _
  shape := fun b c t fz h => ⟨c, fz, (heap_alloc_old _ _ (lt_of_heap h)).trans h, rfl⟩

theorem ext_allocO (e : Env) (o : Obj) (hi : ∀ b, e.I b → b < e.w.heap.size) : Ext e (e.allocO o) where
  I := fun _ h => h
  imm := fun b h => heap_alloc_old _ _ (hi b h)
  ρ := fun id h => by simp only [Env.allocO]; rw [if_neg (by omega)]
  N := Nat.le_succ _
  shape := fun b c t fz h => ⟨c, fz, (heap_alloc_old _ _ (lt_of_heap h)).trans h, rfl⟩

theorem ext_drew (e : Env) : Ext e e.drew := ⟨fun _ h => h, fun _ _ => rfl, fun _ _ => rfl, Nat.le_refl _, fun _ c _ fz h => ⟨c, fz, h, rfl⟩⟩

theorem hrep_drew {e : Env} {H : AHeap} (h : HRep e H) : HRep e.drew H :=
  h.keep (ext_drew e) (fun _ _ _ => rfl) (fun _ h => .inl h) h.imm

theorem tr_drew (e : Env) (H : AHeap) : Tr e H e.drew H :=
  ⟨ext_drew e, fun _ _ _ => rfl, fun _ h => .inl h, fun _ h => .inl h, Nat.le_refl _, rfl, rfl, rfl⟩

theorem size_alloc (w : World) (o : Obj) : (w.alloc o).heap.size = w.heap.size + 1 := by
  show (w.heap.push o).size = _
  simp

theorem hrep_allocI {e : Env} {H : AHeap} (h : HRep e H) (o : Obj) : HRep (e.allocI o) H := by
  refine h.keep (ext_allocI e o h.imm) (fun id ob hid => ?_) (fun b hb => ?_) (fun b hb => ?_)
  · exact heap_alloc_old _ _ (h.at_ id ob hid).2.2.lt
  · rcases hb with hb | hb
    · exact .inl hb
    · exact .inr (by omega)
  · show b < (e.w.alloc o).heap.size
    rw [size_alloc]
    rcases hb with hb | hb
    · have := h.imm b hb; omega
    · omega

theorem tr_allocI {e : Env} {H : AHeap} (h : HRep e H) (o : Obj) : Tr e H (e.allocI o) H where
  ext := ext_allocI e o h.imm
  fr := fun b hb _ => heap_alloc_old _ _ hb
  own := fun b ⟨id, ob, h1, h2⟩ => .inl ⟨id, ob, h1, h2⟩
  im := fun b hb => by
    rcases hb with hb | hb
    · exact .inl hb
    · exact .inr (.inr (by omega))
  size := by show _ ≤ (e.w.alloc o).heap.size; rw [size_alloc]; omega
  os := rfl
  tape := rfl
  output := rfl

theorem hrep_fresh {e : Env} {H : AHeap} (h : HRep e H) : H e.N = none := by
  cases ho : H e.N with
  | none => rfl
  | some o => exact absurd (h.at_ _ _ ho).1 (Nat.lt_irrefl _)

theorem hrep_allocO {e : Env} {H : AHeap} (h : HRep e H) (o : Obj) {ob : AObj} (hob : ORep (e.allocO o) e.w.heap.size 0 ob) : HRep (e.allocO o) (H.set e.N ob) := by
  have x := ext_allocO e o h.imm
  have hρ : (e.allocO o).ρ e.N = (e.w.heap.size, 0) := by simp [Env.allocO]
  refine ⟨fun id o' hid => ?_, fun i j o1 o2 hi hj hij => ?_, fun b hb => ?_, h.gl.ext x⟩
  · simp only [AHeap.set] at hid
    split at hid
    · rename_i heq
      subst heq
      cases hid
      rw [hρ]
      exact ⟨Nat.lt_succ_self _, fun hb => Nat.lt_irrefl _ (h.imm _ hb), hob⟩
    · obtain ⟨h1, h2, h3⟩ := h.at_ id o' hid
      rw [x.ρ id h1]
      exact ⟨Nat.lt_succ_of_lt h1, h2, h3.ext x (heap_alloc_old _ _ h3.lt)⟩
  · simp only [AHeap.set] at hi hj
    split at hi <;> split at hj
    · omega
    · rename_i h1 h2
      subst h1
      obtain ⟨h3, _, h4⟩ := h.at_ j o2 hj
      rw [hρ, x.ρ j h3] at hij
      have := h4.lt; simp only at hij; omega
    · rename_i h1 h2
      subst h2
      obtain ⟨h3, _, h4⟩ := h.at_ i o1 hi
      rw [hρ, x.ρ i h3] at hij
      have := h4.lt; simp only at hij; omega
    · rw [x.ρ i (h.at_ i o1 hi).1, x.ρ j (h.at_ j o2 hj).1] at hij
      exact h.inj i j o1 o2 hi hj hij
  · show b < (e.w.alloc o).heap.size
    rw [size_alloc]
    have := h.imm b hb; omega

theorem tr_allocO {e : Env} {H : AHeap} (h : HRep e H) (o : Obj) (ob : AObj) : Tr e H (e.allocO o) (H.set e.N ob) where
  ext := ext_allocO e o h.imm
  fr := fun b hb _ => heap_alloc_old _ _ hb
  own := fun b ⟨id, o', h1, h2⟩ => by
    simp only [AHeap.set] at h1
    split at h1
    · rename_i heq
      subst heq
      simp only [Env.allocO, if_true] at h2
      exact .inr (by omega)
    · refine .inl ⟨id, o', h1, ?_⟩
      rw [← (ext_allocO e o h.imm).ρ id (h.at_ id o' h1).1]
      exact h2
  im := fun b hb => .inl hb
  size := by show _ ≤ (e.w.alloc o).heap.size; rw [size_alloc]; omega
  os := rfl
  tape := rfl
  output := rfl

/-- A row of the abstract heap written: the block keeps its size. -/
def Env.setRow (e : Env) (g : Nat) (c : Array Value) : Env := { e with w := e.w.setRow g c }

theorem ext_setRow {e : Env} {g : Nat} {c c' : Array Value} {t : TypeId} {fz : Nat × Nat} (hg : e.w.heap[g]? = some (.cells c t fz)) (hs : c'.size = c.size) (hI : ¬ e.I g) : Ext e (e.setRow g c') where
  I := fun _ h => h
  imm := fun b hb => setRow_other _ _ _ _ (fun h => hI (h ▸ hb))
  ρ := fun _ _ => rfl
  N := Nat.le_refl _
  shape := fun b d u fz' h => by
    by_cases hb : b = g
    · subst hb
      rw [hg] at h
      cases h
      exact ⟨c', fz, setRow_heap _ _ _ _ _ _ hg, hs⟩
    · exact ⟨d, fz', (setRow_other _ _ _ _ hb).trans h, rfl⟩

theorem hrep_setRow {e : Env} {H : AHeap} (h : HRep e H) {id : Nat} {ob ob' : AObj} (hid : H id = some ob) {c c' : Array Value} {t : TypeId} {fz : Nat × Nat}
    (hg : e.w.heap[(e.ρ id).1]? = some (.cells c t fz)) (hs : c'.size = c.size) (hob : ORep (e.setRow (e.ρ id).1 c') (e.ρ id).1 (e.ρ id).2 ob') :
    HRep (e.setRow (e.ρ id).1 c') (H.set id ob') := by
  have hI := (h.at_ id ob hid).2.1
  have x := ext_setRow hg hs hI
  refine ⟨fun i o hi => ?_, fun i j o1 o2 hi hj hij => ?_, fun b hb => ?_, h.gl.ext x⟩
  · simp only [AHeap.set] at hi
    split at hi
    · rename_i heq
      subst heq
      cases hi
      exact ⟨(h.at_ _ _ hid).1, hI, hob⟩
    · rename_i hne
      obtain ⟨h1, h2, h3⟩ := h.at_ i o hi
      refine ⟨h1, h2, h3.ext x (setRow_other _ _ _ _ (fun heq => hne (h.inj i id o ob hi hid heq)))⟩
  · have hi' : ∃ o, H i = some o := by
      simp only [AHeap.set] at hi
      split at hi
      · rename_i heq; subst heq; exact ⟨_, hid⟩
      · exact ⟨_, hi⟩
    have hj' : ∃ o, H j = some o := by
      simp only [AHeap.set] at hj
      split at hj
      · rename_i heq; subst heq; exact ⟨_, hid⟩
      · exact ⟨_, hj⟩
    obtain ⟨a, ha⟩ := hi'
    obtain ⟨b, hb⟩ := hj'
    exact h.inj i j a b ha hb hij
  · show b < (e.w.setRow _ c').heap.size
    rw [setRow_size]
    exact h.imm b hb

theorem tr_setRow {e : Env} {H : AHeap} (h : HRep e H) {id : Nat} {ob : AObj} (ob' : AObj) (hid : H id = some ob) {c c' : Array Value} {t : TypeId} {fz : Nat × Nat}
    (hg : e.w.heap[(e.ρ id).1]? = some (.cells c t fz)) (hs : c'.size = c.size) : Tr e H (e.setRow (e.ρ id).1 c') (H.set id ob') where
  ext := ext_setRow hg hs (h.at_ id ob hid).2.1
  fr := fun b hb hn => setRow_other _ _ _ _ (fun heq => hn ⟨id, ob, hid, heq.symm⟩)
  own := fun b ⟨i, o, h1, h2⟩ => by
    simp only [AHeap.set] at h1
    split at h1
    · rename_i heq; subst heq; exact .inl ⟨_, ob, hid, h2⟩
    · exact .inl ⟨i, o, h1, h2⟩
  im := fun b hb => .inl hb
  size := by show _ ≤ (e.w.setRow _ c').heap.size; rw [setRow_size]; exact Nat.le_refl _
  os := rfl
  tape := rfl
  output := rfl

/-- A number more for a block that an object had: the elder number is given up. -/
def Env.again (e : Env) (b base : Nat) : Env := { e with ρ := fun i => if i = e.N then (b, base) else e.ρ i, N := e.N + 1 }

theorem ext_again (e : Env) (b base : Nat) : Ext e (e.again b base) where
  I := fun _ h => h
  imm := fun _ _ => rfl
  ρ := fun id h => by simp only [Env.again]; rw [if_neg (by omega)]
  N := Nat.le_succ _
  shape := fun _ c _ fz h => ⟨c, fz, h, rfl⟩

theorem hrep_again {e : Env} {H : AHeap} (h : HRep e H) {id : Nat} {ob ob' : AObj} (hid : H id = some ob) (base : Nat) (hob : ORep (e.again (e.ρ id).1 base) (e.ρ id).1 base ob') :
    HRep (e.again (e.ρ id).1 base) ((H.del id).set e.N ob') := by
  have x := ext_again e (e.ρ id).1 base
  have hρ : (e.again (e.ρ id).1 base).ρ e.N = ((e.ρ id).1, base) := by simp [Env.again]
  have old : ∀ i o, i ≠ e.N → ((H.del id).set e.N ob') i = some o → i ≠ id ∧ H i = some o := fun i o hne hi => by
    simp only [AHeap.set, if_neg hne, AHeap.del] at hi
    split at hi
    · cases hi
    · rename_i h1; exact ⟨h1, hi⟩
  refine ⟨fun i o hi => ?_, fun i j o1 o2 hi hj hij => ?_, fun b hb => h.imm b hb, h.gl.ext x⟩
  · by_cases hne : i = e.N
    · subst hne
      have : o = ob' := by simp only [AHeap.set, if_true] at hi; exact (Option.some.inj hi).symm
      subst this
      rw [hρ]
      exact ⟨Nat.lt_succ_self _, (h.at_ id ob hid).2.1, hob⟩
    · obtain ⟨_, h1⟩ := old i o hne hi
      obtain ⟨h2, h3, h4⟩ := h.at_ i o h1
      rw [x.ρ i h2]
      exact ⟨Nat.lt_succ_of_lt h2, h3, h4.ext x rfl⟩
  · by_cases hi1 : i = e.N <;> by_cases hj1 : j = e.N
    · omega
    · exfalso
      obtain ⟨h1, h2⟩ := old j o2 hj1 hj
      subst hi1
      rw [hρ, x.ρ j (h.at_ j o2 h2).1] at hij
      exact h1 (h.inj j id o2 ob h2 hid hij.symm)
    · exfalso
      obtain ⟨h1, h2⟩ := old i o1 hi1 hi
      subst hj1
      rw [hρ, x.ρ i (h.at_ i o1 h2).1] at hij
      exact h1 (h.inj i id o1 ob h2 hid hij)
    · obtain ⟨_, h2⟩ := old i o1 hi1 hi
      obtain ⟨_, h3⟩ := old j o2 hj1 hj
      rw [x.ρ i (h.at_ i o1 h2).1, x.ρ j (h.at_ j o2 h3).1] at hij
      exact h.inj i j o1 o2 h2 h3 hij

theorem tr_again {e : Env} {H : AHeap} (h : HRep e H) {id : Nat} {ob : AObj} (ob' : AObj) (hid : H id = some ob) (base : Nat) : Tr e H (e.again (e.ρ id).1 base) ((H.del id).set e.N ob') where
  ext := ext_again e _ base
  fr := fun _ _ _ => rfl
  own := fun b ⟨i, o, h1, h2⟩ => by
    by_cases hne : i = e.N
    · subst hne
      simp only [Env.again, if_true] at h2
      exact .inl ⟨id, ob, hid, h2⟩
    · simp only [AHeap.set, if_neg hne, AHeap.del] at h1
      split at h1
      · cases h1
      · refine .inl ⟨i, o, h1, ?_⟩
        rw [← (ext_again e (e.ρ id).1 base).ρ i (h.at_ i o h1).1]
        exact h2
  im := fun b hb => .inl hb
  size := Nat.le_refl _
  os := rfl
  tape := rfl
  output := rfl

/-- A block more that belongs to nobody. -/
def Env.allocU (e : Env) (o : Obj) : Env := { e with w := e.w.alloc o }

theorem ext_allocU (e : Env) (o : Obj) (hi : ∀ b, e.I b → b < e.w.heap.size) : Ext e (e.allocU o) where
  I := fun _ h => h
  imm := fun b h => heap_alloc_old _ _ (hi b h)
  ρ := fun _ _ => rfl
  N := Nat.le_refl _
  shape := fun b c t fz h => ⟨c, fz, (heap_alloc_old _ _ (lt_of_heap h)).trans h, rfl⟩

theorem hrep_allocU {e : Env} {H : AHeap} (h : HRep e H) (o : Obj) : HRep (e.allocU o) H := by
  refine h.keep (ext_allocU e o h.imm) (fun id ob hid => ?_) (fun b hb => .inl hb) (fun b hb => ?_)
  · exact heap_alloc_old _ _ (h.at_ id ob hid).2.2.lt
  · show b < (e.w.alloc o).heap.size
    rw [size_alloc]
    have := h.imm b hb; omega

theorem tr_allocU {e : Env} {H : AHeap} (h : HRep e H) (o : Obj) : Tr e H (e.allocU o) H where
  ext := ext_allocU e o h.imm
  fr := fun b hb _ => heap_alloc_old _ _ hb
  own := fun b ⟨id, ob, h1, h2⟩ => .inl ⟨id, ob, h1, h2⟩
  im := fun b hb => .inl hb
  size := by show _ ≤ (e.w.alloc o).heap.size; rw [size_alloc]; omega
  os := rfl
  tape := rfl
  output := rfl

def noCells : Obj → Bool
  | .cells .. => false
  | _ => true

/-- A block that bears no cells, written. -/
def Env.putO (e : Env) (g : Nat) (o : Obj) : Env := { e with w := e.w.putObj g o }

theorem ext_putO {e : Env} {g : Nat} {o o' : Obj} (hg : e.w.heap[g]? = some o) (hc : noCells o = true) (hI : ¬ e.I g) : Ext e (e.putO g o') where
  I := fun _ h => h
  imm := fun b hb => World.putObj_heap_other (fun h => hI (h ▸ hb))
  ρ := fun _ _ => rfl
  N := Nat.le_refl _
  shape := fun b d u fz' h => by
    by_cases hb : b = g
    · subst hb
      rw [hg] at h
      cases h
      cases hc
    · exact ⟨d, fz', (World.putObj_heap_other hb).trans h, rfl⟩

theorem hrep_putO {e : Env} {H : AHeap} (h : HRep e H) {id : Nat} {ob ob' : AObj} (hid : H id = some ob) {o o' : Obj}
    (hg : e.w.heap[(e.ρ id).1]? = some o) (hc : noCells o = true) (hob : ORep (e.putO (e.ρ id).1 o') (e.ρ id).1 (e.ρ id).2 ob') :
    HRep (e.putO (e.ρ id).1 o') (H.set id ob') := by
  have hI := (h.at_ id ob hid).2.1
  have x := ext_putO (o' := o') hg hc hI
  refine ⟨fun i o hi => ?_, fun i j o1 o2 hi hj hij => ?_, fun b hb => ?_, h.gl.ext x⟩
  · simp only [AHeap.set] at hi
    split at hi
    · rename_i heq
      subst heq
      cases hi
      exact ⟨(h.at_ _ _ hid).1, hI, hob⟩
    · rename_i hne
      obtain ⟨h1, h2, h3⟩ := h.at_ i o hi
      exact ⟨h1, h2, h3.ext x (World.putObj_heap_other (fun heq => hne (h.inj i id o ob hi hid heq)))⟩
  · have hi' : ∃ o, H i = some o := by
      simp only [AHeap.set] at hi
      split at hi
      · rename_i heq; subst heq; exact ⟨_, hid⟩
      · exact ⟨_, hi⟩
    have hj' : ∃ o, H j = some o := by
      simp only [AHeap.set] at hj
      split at hj
      · rename_i heq; subst heq; exact ⟨_, hid⟩
      · exact ⟨_, hj⟩
    obtain ⟨a, ha⟩ := hi'
    obtain ⟨b, hb⟩ := hj'
    exact h.inj i j a b ha hb hij
  · show b < (e.w.putObj _ o').heap.size
    rw [World.putObj_size]
    exact h.imm b hb

theorem tr_putO {e : Env} {H : AHeap} (h : HRep e H) {id : Nat} {ob : AObj} (ob' : AObj) (hid : H id = some ob) {o o' : Obj}
    (hg : e.w.heap[(e.ρ id).1]? = some o) (hc : noCells o = true) : Tr e H (e.putO (e.ρ id).1 o') (H.set id ob') where
  ext := ext_putO hg hc (h.at_ id ob hid).2.1
  fr := fun b hb hn => World.putObj_heap_other (fun heq => hn ⟨id, ob, hid, heq.symm⟩)
  own := fun b ⟨i, o, h1, h2⟩ => by
    simp only [AHeap.set] at h1
    split at h1
    · rename_i heq; subst heq; exact .inl ⟨_, ob, hid, h2⟩
    · exact .inl ⟨i, o, h1, h2⟩
  im := fun b hb => .inl hb
  size := by show _ ≤ (e.w.putObj _ o').heap.size; rw [World.putObj_size]; exact Nat.le_refl _
  os := rfl
  tape := rfl
  output := rfl

/-- A block that belongs to nobody, and that bears no cells, written. -/
theorem hrep_putU {e : Env} {H : AHeap} (h : HRep e H) {g : Nat} {o o' : Obj} (hg : e.w.heap[g]? = some o) (hc : noCells o = true) (hI : ¬ e.I g) (hO : ¬ Own e H g) : HRep (e.putO g o') H := by
  refine h.keep (ext_putO hg hc hI) (fun id ob hid => World.putObj_heap_other (fun heq => hO ⟨id, ob, hid, heq⟩)) (fun b hb => .inl hb) (fun b hb => ?_)
  show b < (e.w.putObj _ o').heap.size
  rw [World.putObj_size]
  exact h.imm b hb

end Go.Fw

/- Framework, part 3: operations over abstract values that leave the abstract heap alone, and that the model does the same. -/
namespace Go.Fw
set_option linter.unusedSimpArgs false
set_option linter.unusedVariables false
open Go
set_option linter.unusedSectionVars false
variable [Globals]

/-- How '==' is meant at a type. -/
inductive ET where
  | num | bool | ptr | slice | map | func | iface | other
  deriving DecidableEq, Repr, Inhabited

def etOf (P : Program) (t : TypeId) : ET :=
  match P.underlying t with
  | some (.int _) => .num
  | some .string => .num
  | some .bool => .bool
  | some (.pointer _) => .ptr
  | some (.slice _) => .slice
  | some (.map _ _) => .map
  | some (.func _ _ _) => .func
  | some (.interface _) => .iface
  | _ => .other

/-- Whole numbers of one kind. -/
def iand (k : IntKind) (a b : Int) : Int := k.wrap (BitVec.ofInt k.bits a &&& BitVec.ofInt k.bits b).toNat
def ior (k : IntKind) (a b : Int) : Int := k.wrap (BitVec.ofInt k.bits a ||| BitVec.ofInt k.bits b).toNat
def ixor (k : IntKind) (a b : Int) : Int := k.wrap (BitVec.ofInt k.bits a ^^^ BitVec.ofInt k.bits b).toNat
def iandn (k : IntKind) (a b : Int) : Int := k.wrap (BitVec.ofInt k.bits a &&& ~~~BitVec.ofInt k.bits b).toNat
def ishl (k : IntKind) (a b : Int) : Int := k.wrap (a * 2 ^ (min b.toNat k.bits))
def ishr (k : IntKind) (a b : Int) : Int := a.fdiv (2 ^ (min b.toNat k.bits))

def ibin (op : BinOp) (k : IntKind) (a b : Int) : Option Value :=
  match op with
  | .add => some (.int k (k.wrap (a + b)))
  | .sub => some (.int k (k.wrap (a - b)))
  | .mul => some (.int k (k.wrap (a * b)))
  | .quo => if b = 0 then none else some (.int k (k.wrap (a.tdiv b)))
  | .rem => if b = 0 then none else some (.int k (a.tmod b))
  | .eql => some (.bool (decide (a = b)))
  | .neq => some (.bool (!decide (a = b)))
  | .lss => some (.bool (decide (a < b)))
  | .leq => some (.bool (decide (a ≤ b)))
  | .gtr => some (.bool (decide (b < a)))
  | .geq => some (.bool (decide (b ≤ a)))
  | .and => some (.int k (iand k a b))
  | .or => some (.int k (ior k a b))
  | .xor => some (.int k (ixor k a b))
  | .andNot => some (.int k (iandn k a b))
  | _ => none

/-- Numbers of kinds that may be two. -/
def ibin2 (op : BinOp) (k : IntKind) (a : Int) (k' : IntKind) (b : Int) : Option Value :=
  match op with
  | .shl => if 0 ≤ b then some (.int k (ishl k a b)) else none
  | .shr => if 0 ≤ b then some (.int k (ishr k a b)) else none
  | op => if k = k' then ibin op k a b else none

/-- Texts. -/
def sbin (op : BinOp) (a b : ByteArray) : Option Value :=
  match op with
  | .eql => some (.bool (a.toList == b.toList))
  | .neq => some (.bool (!(a.toList == b.toList)))
  | .lss => some (.bool (Op.bytesLess a.toList b.toList))
  | .leq => some (.bool (Op.bytesLess a.toList b.toList || a.toList == b.toList))
  | .gtr => some (.bool (!(Op.bytesLess a.toList b.toList || a.toList == b.toList)))
  | .geq => some (.bool (!Op.bytesLess a.toList b.toList))
  | .add => if a.size + b.size ≤ 9223372036854775807 then some (.string (a ++ b)) else none
  | _ => none

/-- Is it nil (where that is known)? -/
def nilOf (et : ET) : AV → Option Bool
  | .lit (.pointer none) => if et = .ptr then some true else none
  | .ip _ _ => if et = .ptr then some false else none
  | .mp _ _ => if et = .ptr then some false else none
  | .sl .nil _ _ => if et = .slice then some true else none
  | .sl .exact _ _ => if et = .slice then some false else none
  | .sl .any _ _ => if et = .slice then some false else none
  | .ms _ _ _ _ => if et = .slice then some false else none
  | .lit (.map none) => if et = .map then some true else none
  | .mm _ => if et = .map then some false else none
  | .lit .nilFunc => if et = .func then some true else none
  | .fn _ _ _ => if et = .func then some false else none
  | _ => none

def abin (op : BinOp) (et : ET) (x y : AV) : Option AV :=
  match x, y with
  | .lit (.int k a), .lit (.int k' b) => (ibin2 op k a k' b).map .lit
  | .lit (.string a), .lit (.string b) => (sbin op a b).map .lit
  | .lit (.bool a), .lit (.bool b) =>
    if et = .bool then (match op with | .eql => some (.lit (.bool (a == b))) | .neq => some (.lit (.bool (!(a == b)))) | _ => none) else none
  | x, y =>
    match nilOf et x, nilOf et y with
    | some a, some b => if (a || b) = true then (match op with | .eql => some (.lit (.bool (a && b))) | .neq => some (.lit (.bool (!(a && b)))) | _ => none) else none
    | _, _ => none

section
variable {P : Program}

theorem ibin_run {op : BinOp} {k : IntKind} {a b : Int} {v : Value} (h : ibin op k a b = some v) (t : TypeId) (w : World) :
    (binOp op t (.int k a) (.int k b)).run P w = .ok v w := by
  unfold ibin at h
  split at h
  case h_4 =>
    split at h
    · cases h
    · cases h; rename_i hb; simp [binOp, Op.intDiv, hb]
  case h_5 =>
    split at h
    · cases h
    · cases h; rename_i hb; simp [binOp, Op.intDiv, hb]
  all_goals first
    | (cases h; simp [binOp, Op.intArith, Op.intCmp, Op.intBits, iand, ior, ixor, iandn]; done)
    | (cases h; simp [binOp, Op.intArith, Op.intCmp]; first | rfl | (congr 1; done) | skip)
    | cases h

theorem ibin2_run {op : BinOp} {k k' : IntKind} {a b : Int} {v : Value} (h : ibin2 op k a k' b = some v) (t : TypeId) (w : World) :
    (binOp op t (.int k a) (.int k' b)).run P w = .ok v w := by
  unfold ibin2 at h
  split at h
  · split at h
    · rename_i hb
      cases h
      have : ¬ b < 0 := by omega
      simp [binOp, Op.shift, this, ishl, ishr]
    · cases h
  · split at h
    · rename_i hb
      cases h
      have : ¬ b < 0 := by omega
      simp [binOp, Op.shift, this, ishl, ishr]
    · cases h
  · split at h
    · rename_i hk
      subst hk
      exact ibin_run h t w
    · cases h

theorem sbin_run {op : BinOp} {a b : ByteArray} {v : Value} (h : sbin op a b = some v) (t : TypeId) (w : World) :
    (binOp op t (.string a) (.string b)).run P w = .ok v w := by
  unfold sbin at h
  split at h
  case h_7 =>
    split at h
    · rename_i hs
      cases h
      have : ¬ ((a.size + b.size : Nat) : Int) > IntKind.i64.max := by simp [IntKind.max, IntKind.bits, IntKind.signed]; omega
      simp only [binOp, Op.stringOp]
      rw [if_neg this]
      rfl
    · cases h
  all_goals first | (cases h; simp [binOp, Op.stringOp]; done) | cases h

theorem eqGuard_run {op : BinOp} {t : TypeId} {x y : Operand} {a b : Value} {w : World} (h1 : ¬ (a = .nilIface ∧ b = .nilIface)) (h2 : ∀ cs ds, ¬ (a = .agg cs ∧ b = .agg ds)) :
    (eqGuard op t x y a b).run P w = .ok () w := by
  have key : eqGuard op t x y a b = pure () := by
    unfold eqGuard
    cases op <;> first | rfl | skip
    all_goals
      rw [if_neg (by decide)]
      split
      · exact absurd ⟨rfl, rfl⟩ h1
      · exact absurd ⟨rfl, rfl⟩ (h2 _ _)
      · rfl
  rw [key]; rfl

theorem nilOf_ptr {e : Env} {a : AV} {v : Value} {b : Bool} (h : nilOf .ptr a = some b) (r : Rep e a v) : ∃ p, v = .pointer p ∧ p.isNone = b := by
  unfold nilOf at h
  split at h <;> simp at h <;> cases r <;> subst h <;> exact ⟨_, rfl, rfl⟩

theorem nilOf_slice {e : Env} {a : AV} {v : Value} {b : Bool} (h : nilOf .slice a = some b) (r : Rep e a v) : ∃ p n c, v = .slice p n c ∧ p.isNone = b := by
  unfold nilOf at h
  split at h <;> simp at h <;> cases r <;> subst h <;> first | exact ⟨_, _, _, rfl, rfl⟩ | contradiction

theorem nilOf_map {e : Env} {a : AV} {v : Value} {b : Bool} (h : nilOf .map a = some b) (r : Rep e a v) : ∃ p, v = .map p ∧ p.isNone = b := by
  unfold nilOf at h
  split at h <;> simp at h <;> cases r <;> subst h <;> exact ⟨_, rfl, rfl⟩

theorem nilOf_func {e : Env} {a : AV} {v : Value} {b : Bool} (h : nilOf .func a = some b) (r : Rep e a v) : (b = true ∧ v = .nilFunc) ∨ (b = false ∧ ∃ f x c, v = .func f x c) := by
  unfold nilOf at h
  split at h <;> simp at h <;> cases r <;> subst h <;> first | exact .inl ⟨rfl, rfl⟩ | exact .inr ⟨rfl, _, _, _, rfl⟩

theorem equalIn_ptr (n : Nat) {t el : TypeId} (ht : P.underlying t = some (.pointer el)) {p q : Option Addr} (h : p.isNone = true ∨ q.isNone = true) (w : World) :
    (Op.equalIn (n + 1) t (.pointer p) (.pointer q)).run P w = .ok (p.isNone && q.isNone) w := by
  cases p <;> cases q <;> simp at h <;> simp [Op.equalIn, run_underlying ht]

theorem equal_ptr {t el : TypeId} (ht : P.underlying t = some (.pointer el)) {p q : Option Addr} (h : p.isNone = true ∨ q.isNone = true) (w : World) :
    (Op.equal t (.pointer p) (.pointer q)).run P w = .ok (p.isNone && q.isNone) w := equalIn_ptr 9999 ht h w

theorem equalIn_slice (n : Nat) {t el : TypeId} (ht : P.underlying t = some (.slice el)) {p q : Option Addr} {a b c d : Nat} (h : p.isNone = true ∨ q.isNone = true) (w : World) :
    (Op.equalIn (n + 1) t (.slice p a b) (.slice q c d)).run P w = .ok (p.isNone && q.isNone) w := by
  cases p <;> cases q <;> simp at h <;> simp [Op.equalIn, run_underlying ht]

theorem equal_slice {t el : TypeId} (ht : P.underlying t = some (.slice el)) {p q : Option Addr} {a b c d : Nat} (h : p.isNone = true ∨ q.isNone = true) (w : World) :
    (Op.equal t (.slice p a b) (.slice q c d)).run P w = .ok (p.isNone && q.isNone) w := equalIn_slice 9999 ht h w

theorem equalIn_map (n : Nat) {t k el : TypeId} (ht : P.underlying t = some (.map k el)) {p q : Option Nat} (h : p.isNone = true ∨ q.isNone = true) (w : World) :
    (Op.equalIn (n + 1) t (.map p) (.map q)).run P w = .ok (p.isNone && q.isNone) w := by
  cases p <;> cases q <;> simp at h <;> simp [Op.equalIn, run_underlying ht]

theorem equal_map {t k el : TypeId} (ht : P.underlying t = some (.map k el)) {p q : Option Nat} (h : p.isNone = true ∨ q.isNone = true) (w : World) :
    (Op.equal t (.map p) (.map q)).run P w = .ok (p.isNone && q.isNone) w := equalIn_map 9999 ht h w

theorem equalIn_bool (n : Nat) {t : TypeId} (ht : P.underlying t = some .bool) (a b : Bool) (w : World) : (Op.equalIn (n + 1) t (.bool a) (.bool b)).run P w = .ok (a == b) w := by
  simp [Op.equalIn, run_underlying ht]

theorem equal_bool {t : TypeId} (ht : P.underlying t = some .bool) (a b : Bool) (w : World) : (Op.equal t (.bool a) (.bool b)).run P w = .ok (a == b) w := equalIn_bool 9999 ht a b w

theorem equalIn_func0 (n : Nat) {t : TypeId} {x y : Array TypeId} {z : Bool} (ht : P.underlying t = some (.func x y z)) (w : World) : (Op.equalIn (n + 1) t .nilFunc .nilFunc).run P w = .ok true w := by
  simp [Op.equalIn, run_underlying ht]
theorem equalIn_func1 (n : Nat) {t : TypeId} {x y : Array TypeId} {z : Bool} (ht : P.underlying t = some (.func x y z)) (f : Fn) (a c : Array Value) (w : World) : (Op.equalIn (n + 1) t .nilFunc (.func f a c)).run P w = .ok false w := by
  simp [Op.equalIn, run_underlying ht]
theorem equalIn_func2 (n : Nat) {t : TypeId} {x y : Array TypeId} {z : Bool} (ht : P.underlying t = some (.func x y z)) (f : Fn) (a c : Array Value) (w : World) : (Op.equalIn (n + 1) t (.func f a c) .nilFunc).run P w = .ok false w := by
  simp [Op.equalIn, run_underlying ht]
theorem equal_func0 {t : TypeId} {x y : Array TypeId} {z : Bool} (ht : P.underlying t = some (.func x y z)) (w : World) : (Op.equal t .nilFunc .nilFunc).run P w = .ok true w := equalIn_func0 9999 ht w
theorem equal_func1 {t : TypeId} {x y : Array TypeId} {z : Bool} (ht : P.underlying t = some (.func x y z)) (f : Fn) (a c : Array Value) (w : World) : (Op.equal t .nilFunc (.func f a c)).run P w = .ok false w := equalIn_func1 9999 ht f a c w
theorem equal_func2 {t : TypeId} {x y : Array TypeId} {z : Bool} (ht : P.underlying t = some (.func x y z)) (f : Fn) (a c : Array Value) (w : World) : (Op.equal t (.func f a c) .nilFunc).run P w = .ok false w := equalIn_func2 9999 ht f a c w

theorem etOf_bool {t : TypeId} (h : etOf P t = .bool) : P.underlying t = some .bool := by
  unfold etOf at h; split at h <;> first | assumption | cases h
theorem etOf_ptr {t : TypeId} (h : etOf P t = .ptr) : ∃ e, P.underlying t = some (.pointer e) := by
  unfold etOf at h; split at h <;> first | exact ⟨_, by assumption⟩ | cases h
theorem etOf_slice {t : TypeId} (h : etOf P t = .slice) : ∃ e, P.underlying t = some (.slice e) := by
  unfold etOf at h; split at h <;> first | exact ⟨_, by assumption⟩ | cases h
theorem etOf_map {t : TypeId} (h : etOf P t = .map) : ∃ k e, P.underlying t = some (.map k e) := by
  unfold etOf at h; split at h <;> first | exact ⟨_, _, by assumption⟩ | cases h
theorem etOf_func {t : TypeId} (h : etOf P t = .func) : ∃ k e b, P.underlying t = some (.func k e b) := by
  unfold etOf at h; split at h <;> first | exact ⟨_, _, _, by assumption⟩ | cases h

theorem nilOf_et {et : ET} {a : AV} {b : Bool} (h : nilOf et a = some b) : et = .ptr ∨ et = .slice ∨ et = .map ∨ et = .func := by
  unfold nilOf at h
  split at h <;> simp at h <;> simp [h.1]

/-- '==' or '!=' of what may be nil: what the model does with the truth of the equality. -/
theorem nil_run {e : Env} {op : BinOp} {t : TypeId} {x y : Operand} {va vb : Value} {c : Bool} {r : AV}
    (hr : (match op with | .eql => some (AV.lit (.bool c)) | .neq => some (AV.lit (.bool (!c))) | _ => none) = some r)
    (g1 : ¬ (va = .nilIface ∧ vb = .nilIface)) (g2 : ∀ cs ds, ¬ (va = .agg cs ∧ vb = .agg ds))
    (hb : (binOp .eql t va vb).run P e.w = .ok (.bool c) e.w) (hn : (binOp .neq t va vb).run P e.w = .ok (.bool (!c)) e.w) :
    ∃ v, (do eqGuard op t x y va vb; binOp op t va vb : Sem Value).run P e.w = .ok v e.w ∧ Rep e r v := by
  have hg : ∀ z : BinOp, (eqGuard z t x y va vb).run P e.w = .ok () e.w := fun z => eqGuard_run g1 g2
  cases op <;> simp at hr <;> subst hr
  · exact ⟨_, by simp [hg, hb], .lit _⟩
  · exact ⟨_, by simp [hg, hn], .lit _⟩

theorem abin_run {e : Env} {op : BinOp} {t : TypeId} {x y : Operand} {a b r : AV} {va vb : Value} (h : abin op (etOf P t) a b = some r) (ha : Rep e a va) (hb : Rep e b vb) :
    ∃ v, (do eqGuard op t x y va vb; binOp op t va vb : Sem Value).run P e.w = .ok v e.w ∧ Rep e r v := by
  unfold abin at h
  split at h
  · cases ha; cases hb
    simp only [Option.map_eq_some_iff] at h
    obtain ⟨v, hv, rfl⟩ := h
    refine ⟨v, ?_, .lit v⟩
    rw [Sem.run_bind, eqGuard_run (by simp) (by simp)]
    exact ibin2_run hv t e.w
  · cases ha; cases hb
    simp only [Option.map_eq_some_iff] at h
    obtain ⟨v, hv, rfl⟩ := h
    refine ⟨v, ?_, .lit v⟩
    rw [Sem.run_bind, eqGuard_run (by simp) (by simp)]
    exact sbin_run hv t e.w
  · cases ha; cases hb
    split at h
    · rename_i het
      have hu := etOf_bool het
      refine nil_run h ?_ ?_ ?_ ?_ <;> simp [binOp, equal_bool hu]
    · cases h
  · split at h
    · rename_i na nb hna hnb
      split at h
      · rename_i hor
        simp only [Bool.or_eq_true] at hor
        rcases nilOf_et hna with het | het | het | het
        · rw [het] at hna hnb
          obtain ⟨el, hu⟩ := etOf_ptr het
          obtain ⟨p, rfl, rfl⟩ := nilOf_ptr hna ha
          obtain ⟨q, rfl, rfl⟩ := nilOf_ptr hnb hb
          refine nil_run h ?_ ?_ ?_ ?_ <;> simp [binOp, equal_ptr hu hor]
        · rw [het] at hna hnb
          obtain ⟨el, hu⟩ := etOf_slice het
          obtain ⟨p, _, _, rfl, rfl⟩ := nilOf_slice hna ha
          obtain ⟨q, _, _, rfl, rfl⟩ := nilOf_slice hnb hb
          refine nil_run h ?_ ?_ ?_ ?_ <;> simp [binOp, equal_slice hu hor]
        · rw [het] at hna hnb
          obtain ⟨k, el, hu⟩ := etOf_map het
          obtain ⟨p, rfl, rfl⟩ := nilOf_map hna ha
          obtain ⟨q, rfl, rfl⟩ := nilOf_map hnb hb
          refine nil_run h ?_ ?_ ?_ ?_ <;> simp [binOp, equal_map hu hor]
        · rw [het] at hna hnb
          obtain ⟨k, el, vb', hu⟩ := etOf_func het
          rcases nilOf_func hna ha with ⟨rfl, rfl⟩ | ⟨rfl, f, p, q, rfl⟩ <;> rcases nilOf_func hnb hb with ⟨rfl, rfl⟩ | ⟨rfl, f', p', q', rfl⟩
          · refine nil_run h ?_ ?_ ?_ ?_ <;> simp [binOp, equal_func0 hu]
          · refine nil_run h ?_ ?_ ?_ ?_ <;> simp [binOp, equal_func1 hu]
          · refine nil_run h ?_ ?_ ?_ ?_ <;> simp [binOp, equal_func2 hu]
          · simp at hor
      · cases h
    · cases h

end
end Go.Fw

/- Framework, part 4: more operations over abstract values, each held against the model's. -/
namespace Go.Fw
set_option linter.unusedSimpArgs false
set_option linter.unusedVariables false
open Go
set_option linter.unusedSectionVars false
variable [Globals]

/-- What an operation of the model comes to, told by abstract values. -/
def OpRes (P : Program) (o : Oper) (a : Act) (e : Env) (H : AHeap) (v : AV) (H' : AHeap) (N' : Nat) : Prop :=
  ∃ nx rv e', (execOp a.eval o).run P e.w = .ok nx e'.w ∧ (nx = .value rv ∨ nx = .skip ∧ rv = undef) ∧ Rep e' v rv ∧ HRep e' H' ∧ e'.N = N' ∧ Tr e H e' H'

section
variable {P : Program} {o : Oper} {a : Act} {e : Env} {H : AHeap} {v : AV}

theorem OpRes.pure {rv : Value} (hH : HRep e H) (h : (execOp a.eval o).run P e.w = .ok (.value rv) e.w) (r : Rep e v rv) : OpRes P o a e H v H e.N :=
  ⟨_, rv, e, h, .inl rfl, r, hH, rfl, .refl e H⟩

/-- The cells of a value. -/
def AV.cells : AV → Option (List AV)
  | .agg cs => some cs
  | .lit v => if v.oneCell' = true then some [.lit v] else none
  | .tup _ => none
  | .junk => none
  | a => some [a]

theorem cells_one {v : Value} (h : v.oneCell' = true) : v.cells = #[v] := by cases v <;> simp [Value.oneCell'] at h <;> rfl

theorem Rep.cells {a : AV} {v : Value} {cs : List AV} (h : a.cells = some cs) (r : Rep e a v) :
    v.cells.size = cs.length ∧ ∀ (i : Nat) (c : AV) (u : Value), cs[i]? = some c → v.cells[i]? = some u → u.oneCell' = true ∧ Rep e c u := by
  have one : ∀ {a : AV} {v : Value}, v.oneCell' = true → Rep e a v → cs = [a] → v.cells.size = cs.length ∧ ∀ (i : Nat) (c : AV) (u : Value), cs[i]? = some c → v.cells[i]? = some u → u.oneCell' = true ∧ Rep e c u := by
    intro a v h1 r hcs
    subst hcs
    rw [cells_one h1]
    refine ⟨rfl, fun i c u hi hu => ?_⟩
    cases i with
    | zero => simp at hi hu; subst hi; subst hu; exact ⟨h1, r⟩
    | succ i => simp at hi
  cases r with
  | lit v =>
    simp only [AV.cells] at h
    split at h
    · rename_i h1; cases h; exact one h1 (.lit v) rfl
    · cases h
  | agg hl h1 h2 =>
    rename_i cs' vs
    simp only [AV.cells, Option.some.injEq] at h
    subst h
    refine ⟨by simp [Value.cells, hl], fun i c u hi hu => ?_⟩
    simp only [Value.cells, List.getElem?_toArray] at hu
    exact ⟨h1 u (List.mem_of_getElem? hu), h2 i c u hi hu⟩
  | tup => simp [AV.cells] at h
  | junk => simp [AV.cells] at h
  | slNil sz => simp only [AV.cells, Option.some.injEq] at h; exact one rfl (.slNil sz) h.symm
  | slE hk => simp only [AV.cells, Option.some.injEq] at h; exact one rfl (.slE hk) h.symm
  | sl u hk hI hcap hex hsz hc h1 hr => simp only [AV.cells, Option.some.injEq] at h; exact one rfl (.sl u hk hI hcap hex hsz hc h1 hr) h.symm
  | ip u hI hc h1 hr => simp only [AV.cells, Option.some.injEq] at h; exact one rfl (.ip u hI hc h1 hr) h.symm
  | mp h1 => simp only [AV.cells, Option.some.injEq] at h; exact one rfl (.mp h1) h.symm
  | ms h1 h2 h3 h4 => simp only [AV.cells, Option.some.injEq] at h; exact one rfl (.ms h1 h2 h3 h4) h.symm
  | mm h1 => simp only [AV.cells, Option.some.injEq] at h; exact one rfl (.mm h1) h.symm
  | fn hf hc h1 h2 => simp only [AV.cells, Option.some.injEq] at h; exact one rfl (.fn hf hc h1 h2) h.symm
  | ifc h1 => simp only [AV.cells, Option.some.injEq] at h; exact one rfl (.ifc h1) h.symm
  | yl h1 => simp only [AV.cells, Option.some.injEq] at h; exact one rfl (.yl h1) h.symm

/-- A part of a struct's cells. -/
def apart (ag : Bool) (sz off : Nat) (cs : List AV) : Option AV :=
  if ag = true then (if off + sz ≤ cs.length then some (.agg ((cs.drop off).take sz)) else none) else cs[off]?

def isAggB (P : Program) (t : TypeId) : Bool :=
  match P.underlying t with
  | some (.struct _) => true
  | some (.array _ _) => true
  | _ => false

theorem run_isAgg {t : TypeId} {d : TypeDesc} (h : P.underlying t = some d) (w : World) : (isAgg t).run P w = .ok (isAggB P t) w := by
  unfold isAgg isAggB
  cases d <;> simp [run_underlying h, h]

theorem rep_agg_get {cs : List AV} {vs : List Value} (hl : vs.length = cs.length) {i : Nat} {c : AV} (h : cs[i]? = some c) : ∃ u, vs[i]? = some u := by
  have : i < cs.length := (List.getElem?_eq_some_iff.1 h).1
  exact ⟨vs[i]'(by omega), by simp [show i < vs.length by omega]⟩

theorem apart_run {t : TypeId} {d : TypeDesc} (hd : P.underlying t = some d) {sz off : Nat} (hs : (P.info? t).map (·.size) = some sz) {cs : List AV} {r : AV} {v : Value}
    (h : apart (isAggB P t) sz off cs = some r) (hr : Rep e (.agg cs) v) : ∃ vs, v = .agg vs ∧ ∃ u, (part t vs off).run P e.w = .ok u e.w ∧ Rep e r u := by
  cases hr with
  | agg hl h1 h2 =>
    rename_i vs
    refine ⟨_, rfl, ?_⟩
    obtain ⟨ti, hti, hsz⟩ : ∃ ti, P.info? t = some ti ∧ ti.size = sz := by
      cases hi : P.info? t with
      | none => simp [hi] at hs
      | some ti => exact ⟨ti, rfl, by simpa [hi] using hs⟩
    unfold apart at h
    split at h
    · rename_i hag
      split at h
      · rename_i hle
        cases h
        refine ⟨.agg (vs.toArray.extract off (off + sz)), ?_, ?_⟩
        · simp [part, run_isAgg hd, hag, sizeOf, typeInfo, hti, hsz]
        · have he : vs.toArray.extract off (off + sz) = ((vs.drop off).take sz).toArray := by
            rw [List.extract_toArray, List.extract_eq_take_drop]; congr 2; omega
          rw [he]
          refine .agg (by simp; omega) (fun u hu => h1 u (List.mem_of_mem_drop (List.mem_of_mem_take hu))) (fun i c u hc hu => ?_)
          rw [List.getElem?_take] at hc hu
          split at hc
          · rename_i hlt
            rw [if_pos hlt] at hu
            rw [List.getElem?_drop] at hc hu
            exact h2 _ c u hc hu
          · cases hc
      · cases h
    · rename_i hag
      obtain ⟨u, hu⟩ := rep_agg_get hl h
      refine ⟨u, ?_, h2 off r u h hu⟩
      have hag' : isAggB P t = false := by simpa using hag
      simp [part, run_isAgg hd, hag', hu]

theorem addr_add (b o n : Nat) : (⟨b, o, none⟩ : Addr).add n = ⟨b, o + n, none⟩ := by unfold Addr.add; split <;> simp_all

/-- Cells that are known. -/
def MemAt (e : Env) (b o : Nat) (cs : List AV) : Prop := ∀ (j : Nat) (c : AV), cs[j]? = some c → ∃ u, e.w.cell? ⟨b, o + j, none⟩ = some u ∧ u.oneCell' = true ∧ Rep e c u

theorem size_info {t : TypeId} {sz : Nat} (hs : (P.info? t).map (·.size) = some sz) : ∃ ti, P.info? t = some ti ∧ ti.size = sz := by
  cases hi : P.info? t with
  | none => simp [hi] at hs
  | some ti => exact ⟨ti, rfl, by simpa [hi] using hs⟩

theorem load_run {t : TypeId} {d : TypeDesc} (hd : P.underlying t = some d) {sz off : Nat} (hs : (P.info? t).map (·.size) = some sz) {b o : Nat} {cs : List AV} {r : AV}
    (h : apart (isAggB P t) sz off cs = some r) (hm : MemAt e b o cs) : ∃ u, (loadVar t ⟨b, o + off, none⟩).run P e.w = .ok u e.w ∧ Rep e r u := by
  obtain ⟨ti, hti, hsz⟩ := size_info hs
  unfold apart at h
  split at h
  · rename_i hag
    split at h
    · rename_i hle
      cases h
      let f : Nat → Value := fun j => (e.w.cell? ⟨b, o + off + j, none⟩).getD undef
      have hf : ∀ j, j < sz → ∃ c, cs[off + j]? = some c ∧ e.w.cell? ⟨b, o + off + j, none⟩ = some (f j) ∧ (f j).oneCell' = true ∧ Rep e c (f j) := fun j hj => by
        have hc : cs[off + j]? = some (cs[off + j]'(by omega)) := by simp [show off + j < cs.length by omega]
        obtain ⟨u, h1, h2, h3⟩ := hm (off + j) _ hc
        have h4 : e.w.cell? ⟨b, o + off + j, none⟩ = some u := by rw [← h1]; congr 2; omega
        refine ⟨_, hc, ?_⟩
        simp only [f, h4, Option.getD_some]
        exact ⟨trivial, h2, h3⟩
      have hrun := run_loadCells_list (P := P) e.w ⟨b, o + off, none⟩ ((List.range sz).map f) (fun j u hu => by
        rw [List.getElem?_map] at hu
        cases hr : (List.range sz)[j]? with
        | none => simp [hr] at hu
        | some k =>
          have hj : j < sz := by have := (List.getElem?_eq_some_iff.1 hr).1; simpa using this
          have hk : k = j := by have := (List.getElem?_eq_some_iff.1 hr).2; simpa using this.symm
          subst hk
          simp [hr] at hu
          rw [addr_add, ← hu]
          exact (hf k hj).choose_spec.2.1)
      simp only [List.length_map, List.length_range] at hrun
      refine ⟨.agg ((List.range sz).map f).toArray, by simp [loadVar, run_isAgg hd, hag, sizeOf, typeInfo, hti, hsz, hrun], ?_⟩
      refine .agg (by simp; omega) (fun u hu => ?_) (fun i c u hc hu => ?_)
      · obtain ⟨j, hj, rfl⟩ := List.mem_map.1 hu
        exact (hf j (by simpa using hj)).choose_spec.2.2.1
      · rw [List.getElem?_take] at hc
        split at hc
        · rename_i hlt
          rw [List.getElem?_drop] at hc
          obtain ⟨c', h1, h2, h3, h4⟩ := hf i hlt
          rw [hc] at h1
          cases h1
          simp [hlt] at hu
          rw [← hu]
          exact h4
        · cases hc
    · cases h
  · rename_i hag
    obtain ⟨u, h1, h2, h3⟩ := hm off r h
    have hag' : isAggB P t = false := by simpa using hag
    exact ⟨u, by simp [loadVar, run_isAgg hd, hag', h1], h3⟩

theorem memAt_ip {cs : List AV} {off : Nat} {v : Value} (h : Rep e (.ip cs off) v) : ∃ b o, v = .pointer (some ⟨b, o + off, none⟩) ∧ MemAt e b o cs ∧ e.I b := by
  cases h with
  | ip u hI hc h1 hr => exact ⟨_, _, rfl, fun j c hj => ⟨u j, hc j c hj, h1 j c hj, hr j c hj⟩, hI⟩

theorem memAt_obj {H : AHeap} (hH : HRep e H) {id : Nat} {cs : List AV} (h : H id = some (.blk cs)) : MemAt e (e.ρ id).1 (e.ρ id).2 cs := by
  obtain ⟨_, _, c, t, h1, h2, h3⟩ := hH.at_ id _ h
  intro j a hj
  obtain ⟨u, h4, h5, h6⟩ := h3 j a hj
  exact ⟨u, by simp [World.cell?, h1, h4], h5, h6⟩

/-- What a load finds. -/
def aload (H : AHeap) (ag : Bool) (sz : Nat) : AV → Option AV
  | .ip cs off => apart ag sz off cs
  | .mp id off => match H id with
    | some (.blk cs) => apart ag sz off cs
    | _ => none
  | _ => none

theorem aload_run {H : AHeap} (hH : HRep e H) {t : TypeId} {d : TypeDesc} (hd : P.underlying t = some d) {sz : Nat} (hs : (P.info? t).map (·.size) = some sz) {x r : AV} {v : Value}
    (h : aload H (isAggB P t) sz x = some r) (hr : Rep e x v) : ∃ u, (Instr.loadAt t v).run P e.w = .ok u e.w ∧ Rep e r u := by
  unfold aload at h
  split at h
  · obtain ⟨b, o, rfl, hm, _⟩ := memAt_ip hr
    obtain ⟨u, h1, h2⟩ := load_run hd hs h hm
    exact ⟨u, by simp [Instr.loadAt, Instr.sureAddr, h1], h2⟩
  · split at h
    · rename_i id off _ cs hid
      cases hr
      obtain ⟨u, h1, h2⟩ := load_run hd hs h (memAt_obj hH hid)
      exact ⟨u, by simp [Instr.loadAt, Instr.sureAddr, h1], h2⟩
    · cases h
  · cases h

end
end Go.Fw

/- Framework, part 5: addresses, slicing, stores, new memory. -/
namespace Go.Fw
set_option linter.unusedSimpArgs false
set_option linter.unusedVariables false
open Go
set_option linter.unusedSectionVars false
variable [Globals]

section
variable {P : Program} {e : Env} {H : AHeap}

/-- The address of a field. -/
def afield (foff : Nat) : AV → Option AV
  | .ip cs off => some (.ip cs (off + foff))
  | .mp id off => some (.mp id (off + foff))
  | _ => none

theorem afield_run {t : TypeId} {fs : Array Field} {f : Field} {n : Nat} (ht : P.underlying t = some (.struct fs)) (hf : fs[n]? = some f) (hz : ∃ s, (P.info? f.type).map (·.size) = some (s + 1))
    {x r : AV} {v : Value} (h : afield f.offset x = some r) (hr : Rep e x v) : ∃ u, (Instr.fieldAt t v n).run P e.w = .ok u e.w ∧ Rep e r u := by
  obtain ⟨s, hs⟩ := hz
  obtain ⟨ti, hti, hsz⟩ := size_info hs
  have hne : ti.size ≠ 0 := by omega
  unfold afield at h
  split at h
  · cases h
    cases hr with
    | ip u hI hc h1 hr =>
      rename_i cs off b o
      refine ⟨.pointer (some ⟨b, o + (off + f.offset), none⟩), ?_, .ip u hI hc h1 hr⟩
      simp [Instr.fieldAt, run_underlying ht, hf, Instr.sureAddr, fieldPlace, sizeOf, typeInfo, hti, hne, addr_add, Nat.add_assoc]
  · cases h
    cases hr with
    | mp hid =>
      rename_i id off
      refine ⟨.pointer (some ⟨(e.ρ id).1, (e.ρ id).2 + (off + f.offset), none⟩), ?_, .mp hid⟩
      simp [Instr.fieldAt, run_underlying ht, hf, Instr.sureAddr, fieldPlace, sizeOf, typeInfo, hti, hne, addr_add, Nat.add_assoc]
  · cases h

/-- The address of an element. -/
def aindex (sz : Nat) (x i : AV) : Option AV :=
  match x, i with
  | .sl _ sz' es, .lit (.int _ i) => if sz' = sz ∧ 0 ≤ i ∧ i < (es.length : Int) then some (.ip (es.getD i.toNat []) 0) else none
  | .ms id off len sz', .lit (.int _ i) => if sz' = sz ∧ 0 ≤ i ∧ i < (len : Int) then some (.mp id (off + i.toNat * sz)) else none
  | _, _ => none

theorem rep_sl_inv {k : SK} {sz : Nat} {es : List (List AV)} {v : Value} (h : Rep e (.sl k sz es) v) :
    (k = .nil ∧ es = [] ∧ v = .slice none 0 0) ∨ (k ≠ .nil ∧ ∃ b o cap, v = .slice (some ⟨b, o, none⟩) es.length cap ∧ es.length ≤ cap ∧ (k = .exact → cap = es.length) ∧
      (es ≠ [] → e.I b) ∧ (∀ x ∈ es, x.length = sz) ∧ ∀ i x, es[i]? = some x → MemAt e b (o + i * sz) x) ∨ (k ≠ .nil ∧ es = [] ∧ ∃ ad, v = .slice (some ad) 0 0) := by
  cases h with
  | slNil sz => exact .inl ⟨rfl, rfl, rfl⟩
  | slE hk => exact .inr (.inr ⟨hk, rfl, _, rfl⟩)
  | sl u hk hI hcap hex hsz hc h1 hr => exact .inr (.inl ⟨hk, _, _, _, rfl, hcap, hex, hI, hsz, fun i x hi j c hj => ⟨u i j, hc i j x c hi hj, h1 i j x c hi hj, hr i j x c hi hj⟩⟩)

theorem rep_sl_intro {k : SK} {sz : Nat} {es : List (List AV)} {b o cap : Nat} (hk : k ≠ .nil) (hI : es ≠ [] → e.I b) (hcap : es.length ≤ cap) (hex : k = .exact → cap = es.length)
    (hsz : ∀ x ∈ es, x.length = sz) (hm : ∀ i x, es[i]? = some x → MemAt e b (o + i * sz) x) : Rep e (.sl k sz es) (.slice (some ⟨b, o, none⟩) es.length cap) := by
  have key : ∀ i j x c, es[i]? = some x → x[j]? = some c → e.w.cell? ⟨b, o + i * sz + j, none⟩ = some ((e.w.cell? ⟨b, o + i * sz + j, none⟩).getD undef) ∧
      ((e.w.cell? ⟨b, o + i * sz + j, none⟩).getD undef).oneCell' = true ∧ Rep e c ((e.w.cell? ⟨b, o + i * sz + j, none⟩).getD undef) := fun i j x c hi hj => by
    obtain ⟨u, h1, h2, h3⟩ := hm i x hi j c hj
    rw [h1]
    exact ⟨rfl, h2, h3⟩
  exact .sl (fun i j => (e.w.cell? ⟨b, o + i * sz + j, none⟩).getD undef) hk hI hcap hex hsz (fun i j x c hi hj => (key i j x c hi hj).1) (fun i j x c hi hj => (key i j x c hi hj).2.1) (fun i j x c hi hj => (key i j x c hi hj).2.2)

theorem rep_ip_intro {cs : List AV} {off b o : Nat} (hI : e.I b) (hm : MemAt e b o cs) : Rep e (.ip cs off) (.pointer (some ⟨b, o + off, none⟩)) := by
  have key : ∀ j c, cs[j]? = some c → e.w.cell? ⟨b, o + j, none⟩ = some ((e.w.cell? ⟨b, o + j, none⟩).getD undef) ∧
      ((e.w.cell? ⟨b, o + j, none⟩).getD undef).oneCell' = true ∧ Rep e c ((e.w.cell? ⟨b, o + j, none⟩).getD undef) := fun j c hj => by
    obtain ⟨u, h1, h2, h3⟩ := hm j c hj
    rw [h1]
    exact ⟨rfl, h2, h3⟩
  exact .ip (fun j => (e.w.cell? ⟨b, o + j, none⟩).getD undef) hI (fun j c hj => (key j c hj).1) (fun j c hj => (key j c hj).2.1) (fun j c hj => (key j c hj).2.2)

theorem rep_ms_inv {id off len sz : Nat} {v : Value} (h : Rep e (.ms id off len sz) v) : id < e.N ∧ ∃ ad cap, ad.spot = none ∧ v = .slice (some ad) len cap ∧ len ≤ cap ∧
    (cap = 0 ∨ (ad = ⟨(e.ρ id).1, (e.ρ id).2 + off, none⟩ ∧ ∃ (c : Array Value) (t : TypeId) (fz : Nat × Nat), e.w.heap[(e.ρ id).1]? = some (.cells c t fz) ∧ (e.ρ id).2 + off + cap * sz ≤ c.size)) := by
  cases h with
  | ms h1 h2 h3 h4 => exact ⟨h1, _, _, h4, rfl, h2, h3⟩

theorem aindex_run {t el : TypeId} (ht : P.underlying t = some (.slice el)) {sz : Nat} (hs : (P.info? el).map (·.size) = some sz) {x i r : AV} {v w : Value}
    (h : aindex sz x i = some r) (hx : Rep e x v) (hi : Rep e i w) : ∃ u, (Instr.indexAt t v w).run P e.w = .ok u e.w ∧ Rep e r u := by
  obtain ⟨ti, hti, hsz⟩ := size_info hs
  unfold aindex at h
  split at h
  · rename_i k sz' es ki ii
    split at h
    · rename_i hc
      obtain ⟨rfl, h0, h1⟩ := hc
      cases h
      cases hi
      rcases rep_sl_inv hx with ⟨_, rfl, _⟩ | ⟨_, b, o, cap, rfl, _, _, hI, _, hm⟩ | ⟨_, rfl, _⟩
      rotate_right
      · simp at h1; omega
      · simp at h1; omega
      · have hlt : ii.toNat < es.length := by omega
        have hes : es[ii.toNat]? = some (es.getD ii.toNat []) := by simp [List.getD, hlt]
        refine ⟨.pointer (some ⟨b, (o + ii.toNat * sz') + 0, none⟩), ?_, rep_ip_intro (hI (by intro h; simp [h] at hlt)) (hm _ _ hes)⟩
        simp [Instr.indexAt, asIntOf, run_underlying ht, h0, h1, sizeOf, typeInfo, hti, hsz, addr_add]
    · cases h
  · rename_i id off len sz' ki ii
    split at h
    · rename_i hc
      obtain ⟨rfl, h0, h1⟩ := hc
      cases h
      cases hi
      obtain ⟨hid, ad, cap, hsp, rfl, hlen, hroom⟩ := rep_ms_inv hx
      rcases hroom with h0' | ⟨rfl, _⟩
      · omega
      · refine ⟨.pointer (some ⟨(e.ρ id).1, (e.ρ id).2 + (off + ii.toNat * sz'), none⟩), ?_, .mp hid⟩
        simp [Instr.indexAt, asIntOf, run_underlying ht, h0, h1, sizeOf, typeInfo, hti, hsz, addr_add, Nat.add_assoc]
    · cases h
  · cases h

end
end Go.Fw

/- Framework, part 6: slicing, stores, new memory. -/
namespace Go.Fw
set_option linter.unusedSimpArgs false
set_option linter.unusedVariables false
open Go
set_option linter.unusedSectionVars false
variable [Globals]

section
variable {P : Program} {e : Env} {H : AHeap}

/-- A bound of a slice expression, or what stands for none. -/
def bnd (d : Int) : Option AV → Option Int
  | none => some d
  | some (.lit (.int _ i)) => some i
  | _ => none

def RB (v : Option Value) (d i : Int) : Prop := (v = none ∧ i = d) ∨ ∃ k, v = some (.int k i)

/-- Operands that may be left out. -/
inductive RepO (e : Env) : Option AV → Option Value → Prop where
  | none : RepO e none none
  | some {a : AV} {v : Value} (h : Rep e a v) : RepO e (some a) (some v)

theorem rb_of {d i : Int} {x : Option AV} {v : Option Value} (h : bnd d x = some i) (r : RepO e x v) : RB v d i := by
  unfold bnd at h
  split at h
  · cases h; cases r; exact .inl ⟨rfl, rfl⟩
  · cases h; cases r with | some hr => cases hr; exact .inr ⟨_, rfl⟩
  · cases h

theorem sliceBounds_run {lo hi : Option Value} {n cap : Nat} {l h : Int} (hlo : RB lo 0 l) (hhi : RB hi n h) (h0 : 0 ≤ l) (h1 : l ≤ h) (h2 : h ≤ n) (h3 : n ≤ cap) (w : World) (b : Bool) :
    (Instr.sliceBounds b n cap lo hi none).run P w = .ok (l.toNat, h.toNat, cap) w := by
  obtain ⟨l, rfl⟩ := Int.eq_ofNat_of_zero_le h0
  obtain ⟨h, rfl⟩ := Int.eq_ofNat_of_zero_le (show 0 ≤ h by omega)
  have e2 : h ≤ cap := by omega
  have e3 : l ≤ h := by omega
  have e4 : l ≤ n := by omega
  simp only [Int.toNat_natCast]
  rcases hlo with ⟨rfl, hl⟩ | ⟨k, rfl⟩ <;> rcases hhi with ⟨rfl, hh⟩ | ⟨k', rfl⟩
  · obtain rfl : l = 0 := by omega
    obtain rfl : h = n := by omega
    simp [Instr.sliceBounds]
  · obtain rfl : l = 0 := by omega
    simp [Instr.sliceBounds, Instr.sliceBound, asIntOf, e2]
  · obtain rfl : h = n := by omega
    simp [Instr.sliceBounds, Instr.sliceBound, asIntOf, e4]
  · simp [Instr.sliceBounds, Instr.sliceBound, asIntOf, e2, e3]

theorem sliceBounds_run3 {lo : Option Value} {n cap : Nat} {l h m : Int} {kh km : IntKind} (hlo : RB lo 0 l) (h0 : 0 ≤ l) (h1 : l ≤ h) (h2 : h ≤ m) (h3 : m ≤ cap) (w : World) (b : Bool) :
    (Instr.sliceBounds b n cap lo (some (.int kh h)) (some (.int km m))).run P w = .ok (l.toNat, h.toNat, m.toNat) w := by
  obtain ⟨l, rfl⟩ := Int.eq_ofNat_of_zero_le h0
  obtain ⟨h, rfl⟩ := Int.eq_ofNat_of_zero_le (show 0 ≤ h by omega)
  obtain ⟨m, rfl⟩ := Int.eq_ofNat_of_zero_le (show 0 ≤ m by omega)
  have e1 : m ≤ cap := by omega
  have e2 : h ≤ m := by omega
  have e3 : l ≤ h := by omega
  simp only [Int.toNat_natCast]
  rcases hlo with ⟨rfl, hl⟩ | ⟨k, rfl⟩
  · obtain rfl : l = 0 := by omega
    simp [Instr.sliceBounds, Instr.sliceBound, asIntOf, e1, e2]
  · simp [Instr.sliceBounds, Instr.sliceBound, asIntOf, e1, e2, e3]

def askind (k : SK) (ex : Bool) : SK := if k = .nil then .nil else if ex = true then .exact else .any

/-- A slice of a slice. -/
def aslice (sz : Nat) (x : AV) (lo hi mx : Option AV) : Option AV :=
  match x with
  | .sl k sz' es =>
    match bnd 0 lo, bnd es.length hi, mx with
    | some l, some h, none => if (sz' = sz ∨ es = []) ∧ 0 ≤ l ∧ l ≤ h ∧ h ≤ (es.length : Int) then some (.sl (askind k false) sz' ((es.drop l.toNat).take (h.toNat - l.toNat))) else none
    | some l, some h, some (.lit (.int _ m)) => if hi.isSome = true ∧ (sz' = sz ∨ es = []) ∧ 0 ≤ l ∧ l ≤ h ∧ h ≤ m ∧ m ≤ (es.length : Int) then some (.sl (askind k (decide (h = m))) sz' ((es.drop l.toNat).take (h.toNat - l.toNat))) else none
    | _, _, _ => none
  | .ms id off len sz' =>
    match bnd 0 lo, bnd len hi, mx with
    | some l, some h, none => if sz' = sz ∧ 0 ≤ l ∧ l ≤ h ∧ h ≤ (len : Int) then some (.ms id (off + l.toNat * sz) (h.toNat - l.toNat) sz) else none
    | some l, some h, some (.lit (.int _ m)) => if hi.isSome = true ∧ sz' = sz ∧ 0 ≤ l ∧ l ≤ h ∧ h ≤ m ∧ m ≤ (len : Int) then some (.ms id (off + l.toNat * sz) (h.toNat - l.toNat) sz) else none
    | _, _, _ => none
  | _ => none

/-- A slice of a slice that nobody writes. -/
theorem rep_sl_cut {k : SK} {sz : Nat} {es : List (List AV)} {v : Value} (h : Rep e (.sl k sz es) v) {l hh : Nat} (h1 : l ≤ hh) (h2 : hh ≤ es.length)
    {size : Nat} (hs : sz = size ∨ es = []) : ∃ a c, v = .slice a es.length c ∧ es.length ≤ c ∧
      (∀ (m : Nat) (ex : Bool), hh ≤ m → (ex = true → m = hh) → m ≤ c → Rep e (.sl (askind k ex) sz ((es.drop l).take (hh - l))) (.slice (if m = l then a else a.map (·.add (l * size))) (hh - l) (m - l))) := by
  rcases rep_sl_inv h with ⟨rfl, rfl, rfl⟩ | ⟨hk, b, o, cap, rfl, hcap, hexx, hI, hsz, hm⟩ | ⟨hk, rfl, ad, rfl⟩
  rotate_right
  · refine ⟨_, _, rfl, Nat.le_refl _, fun m ex h3 hex hmc => ?_⟩
    simp only [List.length_nil, Nat.le_zero] at h2
    have hm0 : m = 0 := by omega
    have hl0 : l = 0 := by omega
    subst h2; subst hm0; subst hl0
    simp only [if_true, List.drop_nil, List.take_nil, Nat.sub_self]
    exact .slE (by simp only [askind, if_neg hk]; split <;> simp)
  · refine ⟨_, _, rfl, Nat.le_refl _, fun m ex h3 hex hmc => ?_⟩
    simp only [List.length_nil, Nat.le_zero] at h2
    have hm0 : m = 0 := by omega
    have hl0 : l = 0 := by omega
    subst h2; subst hm0; subst hl0
    simp only [askind, if_true, List.drop_nil, List.take_nil, Nat.sub_self, Option.map_none, ite_self]
    exact .slNil sz
  · refine ⟨_, _, rfl, hcap, fun m ex h3 hex hmc => ?_⟩
    have hlen : ((es.drop l).take (hh - l)).length = hh - l := by simp; omega
    have hsub : ∀ x ∈ (es.drop l).take (hh - l), x ∈ es := fun x hx => List.mem_of_mem_drop (List.mem_of_mem_take hx)
    by_cases hml : m = l
    · rw [if_pos hml]
      have h0 : hh - l = 0 := by omega
      have hes : (es.drop l).take (hh - l) = [] := by rw [h0]; rfl
      have := rep_sl_intro (e := e) (k := askind k ex) (sz := sz) (es := (es.drop l).take (hh - l)) (b := b) (o := o) (cap := m - l)
        (by simp only [askind, if_neg hk]; split <;> simp) (fun hne => absurd hes hne) (by rw [hes]; exact Nat.zero_le _) (fun _ => by rw [hes]; simp; omega)
        (fun x hx => hsz x (hsub x hx)) (fun i x hi => by rw [hes] at hi; simp at hi)
      rw [hlen] at this
      exact this
    · rw [if_neg hml]
      simp only [Option.map_some, addr_add]
      have := rep_sl_intro (e := e) (k := askind k ex) (sz := sz) (es := (es.drop l).take (hh - l)) (b := b) (o := o + l * size) (cap := m - l)
        (by simp only [askind, if_neg hk]; split <;> simp) (fun hne => hI (fun h0 => hne (by rw [h0]; simp))) (by rw [hlen]; omega)
        (fun hx => by
          simp only [askind, if_neg hk] at hx
          split at hx
          · rename_i he; have := hex he; rw [hlen]; omega
          · cases hx)
        (fun x hx => hsz x (hsub x hx))
        (fun i x hi => by
          rw [List.getElem?_take] at hi
          split at hi
          · rw [List.getElem?_drop] at hi
            rcases hs with rfl | rfl
            · have h4 := hm (l + i) x hi
              rw [Nat.add_mul] at h4
              rw [Nat.add_assoc]
              exact h4
            · simp at hi
          · cases hi)
      rw [hlen] at this
      exact this

theorem aslice_run {t el : TypeId} (ht : P.underlying t = some (.slice el)) {sz : Nat} (hs : (P.info? el).map (·.size) = some sz) {x r : AV} {lo hi mx : Option AV} {v : Value} {vlo vhi vmx : Option Value}
    (h : aslice sz x lo hi mx = some r) (hx : Rep e x v) (hlo : RepO e lo vlo) (hhi : RepO e hi vhi) (hmx : RepO e mx vmx) :
    ∃ u, (Instr.sliceAt t v vlo vhi vmx).run P e.w = .ok u e.w ∧ Rep e r u := by
  obtain ⟨ti, hti, hsz⟩ := size_info hs
  unfold aslice at h
  split at h
  · rename_i k sz' es
    split at h
    · rename_i l hh hl hhb
      split at h
      · rename_i hc
        obtain ⟨hz, h0, h1, h2⟩ := hc
        cases h
        cases hmx
        obtain ⟨a, c, rfl, hle, hrep⟩ := rep_sl_cut hx (l := l.toNat) (hh := hh.toNat) (by omega) (by omega) hz
        refine ⟨_, ?_, hrep c false (by omega) (fun h => by cases h) (Nat.le_refl _)⟩
        have hb := sliceBounds_run (P := P) (rb_of hl hlo) (rb_of hhb hhi) h0 h1 h2 hle e.w true
        simp [Instr.sliceAt, Instr.slice, run_underlying ht, hb, sizeOf, typeInfo, hti, hsz]
      · cases h
    · rename_i l hh km m hl hhb
      split at h
      · rename_i hc
        obtain ⟨hsome, hz, h0, h1, h2, h3⟩ := hc
        cases h
        cases hmx
        rename_i hr
        cases hr
        cases hhi with
        | none => simp at hsome
        | some hr2 =>
          rename_i ah vh
          have hrb := rb_of hhb (.some hr2)
          rcases hrb with ⟨h4, _⟩ | ⟨kh, h4⟩
          · cases h4
          · cases h4
            obtain ⟨a, c, rfl, hle, hrep⟩ := rep_sl_cut hx (l := l.toNat) (hh := hh.toNat) (by omega) (by omega) hz
            refine ⟨_, ?_, hrep m.toNat (decide (hh = m)) (by omega) (fun h => by simp at h; omega) (by omega)⟩
            have hb := sliceBounds_run3 (P := P) (n := es.length) (cap := c) (kh := kh) (km := km) (rb_of hl hlo) h0 h1 h2 (by omega) e.w true
            simp [Instr.sliceAt, Instr.slice, run_underlying ht, hb, sizeOf, typeInfo, hti, hsz]
      · cases h
    · cases h
  · rename_i id off len sz'
    split at h
    · rename_i l hh hl hhb
      split at h
      · rename_i hc
        obtain ⟨rfl, h0, h1, h2⟩ := hc
        cases h
        cases hmx
        obtain ⟨hid, ad, cap, hsp, rfl, hlen, hroom⟩ := rep_ms_inv hx
        have hb := sliceBounds_run (P := P) (rb_of hl hlo) (rb_of hhb hhi) h0 h1 h2 hlen e.w true
        refine ⟨.slice (if cap = l.toNat then some ad else some (ad.add (l.toNat * sz'))) (hh.toNat - l.toNat) (cap - l.toNat), ?_, ?_⟩
        · simp [Instr.sliceAt, Instr.slice, run_underlying ht, hb, sizeOf, typeInfo, hti, hsz]
        · by_cases hcl : cap = l.toNat
          · rw [if_pos hcl]
            exact .ms hid (by omega) (.inl (by omega))
          · rw [if_neg hcl]
            rcases hroom with h3 | ⟨rfl, c, ty, fz, h3, h4⟩
            · omega
            · rw [addr_add]
              refine .ms hid (by omega) (.inr ⟨by rw [Nat.add_assoc], c, ty, fz, h3, ?_⟩)
              have : l.toNat * sz' + (cap - l.toNat) * sz' = cap * sz' := by rw [← Nat.add_mul]; congr 1; omega
              omega
      · cases h
    · rename_i l hh km m hl hhb
      split at h
      · rename_i hc
        obtain ⟨hsome, rfl, h0, h1, h2, h3⟩ := hc
        cases h
        cases hmx
        rename_i hr
        cases hr
        cases hhi with
        | none => simp at hsome
        | some hr2 =>
          rename_i ah vh
          have hrb := rb_of hhb (.some hr2)
          rcases hrb with ⟨h4, _⟩ | ⟨kh, h4⟩
          · cases h4
          · cases h4
            obtain ⟨hid, ad, cap, hsp, rfl, hlen, hroom⟩ := rep_ms_inv hx
            have hb := sliceBounds_run3 (P := P) (n := len) (cap := cap) (kh := kh) (km := km) (rb_of hl hlo) h0 h1 h2 (by omega) e.w true
            refine ⟨.slice (if m.toNat = l.toNat then some ad else some (ad.add (l.toNat * sz'))) (hh.toNat - l.toNat) (m.toNat - l.toNat), ?_, ?_⟩
            · simp [Instr.sliceAt, Instr.slice, run_underlying ht, hb, sizeOf, typeInfo, hti, hsz]
            · by_cases hcl : m.toNat = l.toNat
              · rw [if_pos hcl]
                exact .ms hid (by omega) (.inl (by omega))
              · rw [if_neg hcl]
                rcases hroom with h5 | ⟨rfl, c, ty, fz, h5, h6⟩
                · omega
                · rw [addr_add]
                  refine .ms hid (by omega) (.inr ⟨by rw [Nat.add_assoc], c, ty, fz, h5, ?_⟩)
                  have : l.toNat * sz' + (m.toNat - l.toNat) * sz' = m.toNat * sz' := by rw [← Nat.add_mul]; congr 1; omega
                  have : m.toNat * sz' ≤ cap * sz' := Nat.mul_le_mul_right _ (by omega)
                  omega
      · cases h
    · cases h
  · cases h

end
end Go.Fw

/- Framework, part 7: stores and new memory. -/
namespace Go.Fw
set_option linter.unusedSimpArgs false
set_option linter.unusedVariables false
open Go
set_option linter.unusedSectionVars false
variable [Globals]

/-- Cells written over cells. -/
def splice (off : Nat) (vcs cs : List AV) : List AV :=
  match vcs with
  | [c] => cs.set off c
  | vcs => cs.take off ++ vcs ++ cs.drop (off + vcs.length)

theorem splice_eq {off : Nat} {vcs cs : List AV} (h : off + vcs.length ≤ cs.length) : splice off vcs cs = cs.take off ++ vcs ++ cs.drop (off + vcs.length) := by
  unfold splice
  split
  · rw [List.set_eq_take_append_cons_drop, if_pos (by simp at h; omega)]
    simp
  · rfl

/-- A store. -/
def astore (H : AHeap) (sz : Nat) (x v : AV) : Option AHeap :=
  match x, v.cells with
  | .mp id off, some vcs =>
    match H id with
    | some (.blk cs) => if vcs.length = sz ∧ off + sz ≤ cs.length then some (H.set id (.blk (splice off vcs cs))) else none
    | _ => none
  | _, _ => none

section
variable {P : Program} {e : Env} {H : AHeap}

theorem memAt_of_list {b base : Nat} {c : Array Value} {t : TypeId} {fz : Nat × Nat} (hg : e.w.heap[b]? = some (.cells c t fz)) {cs : List AV}
    (h : ∀ (j : Nat) (a : AV), cs[j]? = some a → ∃ u, c[base + j]? = some u ∧ u.oneCell' = true ∧ Rep e a u) : MemAt e b base cs := fun j a hj => by
  obtain ⟨u, h1, h2, h3⟩ := h j a hj
  exact ⟨u, by simp [World.cell?, hg, h1], h2, h3⟩

/-- A row of the model after a store. -/
theorem orep_store {id off : Nat} {cs vcs : List AV} {c : Array Value} {t : TypeId} {us : List Value} (hH : HRep e H) (hid : H id = some (.blk cs))
    (hg : e.w.heap[(e.ρ id).1]? = some (.cells c t (0, 0))) (hlen : us.length = vcs.length) (hle : off + vcs.length ≤ cs.length)
    (hu : ∀ (i : Nat) (a : AV) (u : Value), vcs[i]? = some a → us[i]? = some u → u.oneCell' = true ∧ Rep e a u) :
    let c' := (c.toList.take ((e.ρ id).2 + off) ++ us ++ c.toList.drop ((e.ρ id).2 + off + us.length)).toArray
    c'.size = c.size ∧ ORep (e.setRow (e.ρ id).1 c') (e.ρ id).1 (e.ρ id).2 (.blk (splice off vcs cs)) := by
  intro c'
  obtain ⟨_, hI, c0, t0, hg0, hle0, hm⟩ := hH.at_ id _ hid
  rw [hg] at hg0
  cases hg0
  have hs : c'.size = c.size := by
    simp only [c', List.size_toArray, List.length_append, List.length_take, List.length_drop, Array.length_toList]
    omega
  have x : Ext e (e.setRow (e.ρ id).1 c') := ext_setRow hg hs hI
  refine ⟨hs, c', t, setRow_heap _ _ _ _ _ _ hg, ?_, fun j a hj => ?_⟩
  · rw [hs, splice_eq hle]; simp; omega
  · rw [splice_eq hle] at hj
    have hcl : (e.ρ id).2 + off ≤ c.toList.length := by simp; omega
    have ht : (c.toList.take ((e.ρ id).2 + off)).length = (e.ρ id).2 + off := by simp; omega
    have htc : (cs.take off).length = off := by simp; omega
    simp only [c', List.getElem?_toArray]
    by_cases h1 : j < off
    · rw [List.append_assoc, List.getElem?_append_left (by omega), List.getElem?_take, if_pos h1] at hj
      obtain ⟨u, h2, h3, h4⟩ := hm j a hj
      refine ⟨u, ?_, h3, h4.ext x⟩
      rw [List.append_assoc, List.getElem?_append_left (by omega), List.getElem?_take, if_pos (by omega)]
      simpa using h2
    · by_cases h2 : j < off + vcs.length
      · rw [List.append_assoc, List.getElem?_append_right (by omega), htc, List.getElem?_append_left (by omega)] at hj
        have hus : us[j - off]? = some (us[j - off]'(by omega)) := by simp [show j - off < us.length by omega]
        obtain ⟨h3, h4⟩ := hu _ a _ hj hus
        refine ⟨_, ?_, h3, h4.ext x⟩
        rw [List.append_assoc, List.getElem?_append_right (by omega), ht, List.getElem?_append_left (by omega)]
        rw [show (e.ρ id).2 + j - ((e.ρ id).2 + off) = j - off by omega]
        exact hus
      · rw [List.append_assoc, List.getElem?_append_right (by omega), htc, List.getElem?_append_right (by omega), List.getElem?_drop] at hj
        have hj' : cs[j]? = some a := by rw [← hj]; congr 1; omega
        obtain ⟨u, h3, h4, h5⟩ := hm j a hj'
        refine ⟨u, ?_, h4, h5.ext x⟩
        rw [List.append_assoc, List.getElem?_append_right (by omega), ht, List.getElem?_append_right (by omega), List.getElem?_drop]
        rw [show (e.ρ id).2 + off + us.length + ((e.ρ id).2 + j - ((e.ρ id).2 + off) - us.length) = (e.ρ id).2 + j by omega]
        simpa using h3

theorem astore_run (hH : HRep e H) {t : TypeId} {sz : Nat} (hs : (P.info? t).map (·.size) = some sz) {x v : AV} {H' : AHeap} {vx vv : Value}
    (h : astore H sz x v = some H') (hx : Rep e x vx) (hv : Rep e v vv) : ∃ e', (Instr.storeAt t vx vv).run P e.w = .ok () e'.w ∧ HRep e' H' ∧ e'.N = e.N ∧ Tr e H e' H' := by
  obtain ⟨ti, hti, hsz⟩ := size_info hs
  unfold astore at h
  split at h
  · rename_i id off vcs hcs
    split at h
    · rename_i cs hid
      split at h
      · rename_i hc
        obtain ⟨hl, hle⟩ := hc
        cases h
        cases hx with
        | mp hid' =>
          obtain ⟨hN, hI, c, t0, hg, hle0, hm⟩ := hH.at_ id _ hid
          obtain ⟨hsize, hcell⟩ := hv.cells hcs
          have hone : ∀ u ∈ vv.cells.toList, u.oneCell' = true := fun u hu => by
            obtain ⟨i, hi, rfl⟩ := List.getElem_of_mem hu
            have hi' : i < vcs.length := by simp at hi; omega
            exact (hcell i _ _ (List.getElem?_eq_getElem hi') (by simp at hi; simp [hi])).1
          obtain ⟨h1, h2⟩ := orep_store (us := vv.cells.toList) hH hid hg (by simp [hsize]) (off := off) (vcs := vcs) (by omega) (fun i a u ha hu => hcell i a u ha (by simpa using hu))
          refine ⟨_, ?_, hrep_setRow hH hid hg h1 h2, rfl, tr_setRow hH _ hid hg h1⟩
          have hst := run_storeCells_at P (e.ρ id).1 ((e.ρ id).2 + off) t0 vv.cells.toList 0 c e.w hg (by simp [hsize]; omega) hone
          simp only [Nat.add_zero] at hst
          simp only [Instr.storeAt, Instr.sureAddr, storeVar, Sem.run_bind, Sem.run_pure, Result.andThen_ok, sizeOf, run_typeInfo _ hti, hsz, hsize, hl]
          simpa [Env.setRow] using hst
      · cases h
    · cases h
  · cases h

/-- New memory that holds these cells. -/
theorem new_obj (hH : HRep e H) {cs : List AV} {us : List Value} {rest : List Value} (t : TypeId) (hlen : us.length = cs.length)
    (hu : ∀ (i : Nat) (a : AV) (u : Value), cs[i]? = some a → us[i]? = some u → u.oneCell' = true ∧ Rep e a u) :
    HRep (e.allocO (.cells (us ++ rest).toArray t)) (H.set e.N (.blk cs)) ∧ Tr e H (e.allocO (.cells (us ++ rest).toArray t)) (H.set e.N (.blk cs)) := by
  refine ⟨hrep_allocO hH _ ⟨_, t, heap_alloc_new _ _, by simp; omega, fun j a hj => ?_⟩, tr_allocO hH _ _⟩
  have hj' : j < us.length := by have := (List.getElem?_eq_some_iff.1 hj).1; omega
  obtain ⟨h1, h2⟩ := hu j a us[j] hj (by simp [hj'])
  refine ⟨us[j], ?_, h1, h2.ext (ext_allocO e _ hH.imm)⟩
  simp [List.getElem?_append_left hj', hj']

theorem rep_new_ms {us : List Value} (t : TypeId) {len cap sz : Nat} (h1 : len ≤ cap) (h2 : cap * sz ≤ us.length) :
    Rep (e.allocO (.cells us.toArray t)) (.ms e.N 0 len sz) (.slice (some ⟨e.w.heap.size, 0, none⟩) len cap) := by
  refine .ms (Nat.lt_succ_self _) h1 (.inr ⟨by simp [Env.allocO], us.toArray, t, (0, 0), ?_, ?_⟩)
  · simp only [Env.allocO, if_true]; exact heap_alloc_new _ _
  · simp [Env.allocO]; exact h2

theorem rep_new_mp {us : List Value} (t : TypeId) : Rep (e.allocO (.cells us.toArray t)) (.mp e.N 0) (.pointer (some ⟨e.w.heap.size, 0, none⟩)) := by
  have := Rep.mp (e := e.allocO (.cells us.toArray t)) (id := e.N) (off := 0) (Nat.lt_succ_self _)
  simpa [Env.allocO] using this

theorem cells_list {v : AV} {vv : Value} {cs : List AV} (h : v.cells = some cs) (r : Rep e v vv) : vv.cells.toList.length = cs.length ∧
    ∀ (i : Nat) (a : AV) (u : Value), cs[i]? = some a → vv.cells.toList[i]? = some u → u.oneCell' = true ∧ Rep e a u := by
  obtain ⟨h1, h2⟩ := r.cells h
  exact ⟨by simpa using h1, fun i a u ha hu => h2 i a u ha (by simpa using hu)⟩

/-- 'box': a variable that holds a value. -/
theorem box_run (hH : HRep e H) (t : TypeId) {v : AV} {vv : Value} {cs : List AV} (hc : v.cells = some cs) (r : Rep e v vv) :
    ∃ u e', (Instr.box t vv).run P e.w = .ok u e'.w ∧ Rep e' (.mp e.N 0) u ∧ HRep e' (H.set e.N (.blk cs)) ∧ e'.N = e.N + 1 ∧ Tr e H e' (H.set e.N (.blk cs)) := by
  obtain ⟨h1, h2⟩ := cells_list hc r
  obtain ⟨h3, h4⟩ := new_obj hH t (rest := []) h1 h2
  rw [List.append_nil] at h3 h4
  refine ⟨_, _, ?_, rep_new_mp t, h3, rfl, h4⟩
  simp only [Instr.box, newVar, newRow, newObj, Sem.run_bind, Sem.run_pure, Result.andThen_ok, Sem.run]
  rfl

theorem alloc_run (hH : HRep e H) {t : TypeId} {z : Value} (hz : (P.info? t).bind (·.zero) = some z) {v : AV} {cs : List AV} (hc : v.cells = some cs) (r : Rep e v z) :
    ∃ u e', (Instr.alloc t true (.tuple #[])).run P e.w = .ok u e'.w ∧ Rep e' (.mp e.N 0) u ∧ HRep e' (H.set e.N (.blk cs)) ∧ e'.N = e.N + 1 ∧ Tr e H e' (H.set e.N (.blk cs)) := by
  obtain ⟨h1, h2⟩ := cells_list hc r
  obtain ⟨h3, h4⟩ := new_obj hH t (rest := []) h1 h2
  rw [List.append_nil] at h3 h4
  refine ⟨_, _, ?_, rep_new_mp t, h3, rfl, h4⟩
  obtain ⟨ti, hti, hzz⟩ := Option.bind_eq_some_iff.1 hz
  simp only [Instr.alloc, zeroValue, run_typeInfo _ hti, hzz, newVar, newRow, newObj, Sem.run_bind, Sem.run_pure, Result.andThen_ok, Sem.run]
  rfl

end
end Go.Fw

/- Framework, part 8: composite values, make, append. -/
namespace Go.Fw
set_option linter.unusedSimpArgs false
set_option linter.unusedVariables false
open Go
set_option linter.unusedSectionVars false
variable [Globals]

section
variable {P : Program} {e : Env} {H : AHeap}

/-- Cells, abstract and not. -/
def RelC (e : Env) (cs : List AV) (us : List Value) : Prop :=
  us.length = cs.length ∧ ∀ (i : Nat) (a : AV) (u : Value), cs[i]? = some a → us[i]? = some u → u.oneCell' = true ∧ Rep e a u

theorem RelC.ext {e e' : Env} (x : Ext e e') {cs : List AV} {us : List Value} (h : RelC e cs us) : RelC e' cs us :=
  ⟨h.1, fun i a u ha hu => ⟨(h.2 i a u ha hu).1, (h.2 i a u ha hu).2.ext x⟩⟩

theorem RelC.append {cs ds : List AV} {us ws : List Value} (h : RelC e cs us) (k : RelC e ds ws) : RelC e (cs ++ ds) (us ++ ws) := by
  refine ⟨by simp [h.1, k.1], fun i a u ha hu => ?_⟩
  by_cases hi : i < cs.length
  · rw [List.getElem?_append_left hi] at ha
    rw [List.getElem?_append_left (by rw [h.1]; exact hi)] at hu
    exact h.2 i a u ha hu
  · rw [List.getElem?_append_right (by omega)] at ha
    rw [List.getElem?_append_right (by rw [h.1]; omega), h.1] at hu
    exact k.2 _ a u ha hu

theorem RelC.take {cs : List AV} {us : List Value} (h : RelC e cs us) (n : Nat) : RelC e (cs.take n) (us.take n) := by
  refine ⟨by simp [h.1], fun i a u ha hu => ?_⟩
  rw [List.getElem?_take] at ha hu
  split at ha
  · rename_i hi
    rw [if_pos hi] at hu
    exact h.2 i a u ha hu
  · cases ha

theorem RelC.drop {cs : List AV} {us : List Value} (h : RelC e cs us) (n : Nat) : RelC e (cs.drop n) (us.drop n) := by
  refine ⟨by simp [h.1], fun i a u ha hu => ?_⟩
  rw [List.getElem?_drop] at ha hu
  exact h.2 _ a u ha hu

theorem RelC.splice {cs vs : List AV} {us ws : List Value} (h : RelC e cs us) (k : RelC e vs ws) {off : Nat} (hle : off + vs.length ≤ cs.length) :
    RelC e (splice off vs cs) (us.take off ++ ws ++ us.drop (off + ws.length)) := by
  rw [splice_eq hle]
  rw [k.1]
  exact ((h.take off).append k).append (h.drop _)

theorem RelC.agg {cs : List AV} {us : List Value} (h : RelC e cs us) : Rep e (.agg cs) (.agg us.toArray) := by
  refine .agg h.1 (fun u hu => ?_) (fun i c u hc hu => (h.2 i c u hc hu).2)
  obtain ⟨i, hi, rfl⟩ := List.getElem_of_mem hu
  have hi' : i < cs.length := by have := h.1; omega
  exact (h.2 i cs[i] us[i] (by simp [hi']) (by simp [hi])).1

theorem relC_const (e : Env) : ∀ (us : List Value), (∀ u ∈ us, u.oneCell' = true) → RelC e (us.map cAV1) us := fun us h => by
  refine ⟨by simp, fun i a u ha hu => ?_⟩
  simp only [List.getElem?_map, hu, Option.map_some, Option.some.injEq] at ha
  subst ha
  exact ⟨h u (List.mem_of_getElem? hu), rep_cAV1 e u⟩

theorem foldl_set (off : Nat) : ∀ (vs : List Value) (k : Nat) (cells : Array Value), off + k + vs.length ≤ cells.size →
    ((vs.zipIdx k).foldl (fun cs (c, j) => cs.setIfInBounds (off + j) c) cells).toList = cells.toList.take (off + k) ++ vs ++ cells.toList.drop (off + k + vs.length)
  | [], k, cells, _ => by simp
  | v :: vs, k, cells, h => by
    simp only [List.zipIdx_cons, List.foldl_cons]
    simp only [List.length_cons] at h
    rw [foldl_set off vs (k + 1) _ (by simp; omega)]
    simp only [Array.toList_setIfInBounds, List.length_cons]
    rw [List.set_eq_take_append_cons_drop, if_pos (by simp; omega)]
    have h1 : (cells.toList.take (off + k)).length = off + k := by simp; omega
    rw [List.take_append, List.drop_append, h1]
    have h2 : off + (k + 1) - (off + k) = 1 := by omega
    have h3 : off + (k + 1) + vs.length - (off + k) = vs.length + 1 := by omega
    rw [h2, h3]
    simp only [List.take_succ_cons, List.take_zero, List.drop_succ_cons, List.drop_drop]
    rw [List.take_of_length_le (by simp; omega), List.drop_eq_nil_of_le (by simp; omega)]
    simp only [List.append_assoc, List.nil_append, List.singleton_append, List.cons_append]
    congr 3
    congr 1
    omega

/-- Parts laid into cells. -/
def afill : List (Nat × Nat × AV) → List AV → Option (List AV)
  | [], cs => some cs
  | (off, size, v) :: r, cs =>
    match v.cells with
    | some vcs => if vcs.length = size ∧ off + size ≤ cs.length then afill r (splice off vcs cs) else none
    | none => none

theorem afill_run (place : Nat → Option (Nat × Nat)) : ∀ (parts : List (Nat × Nat × AV)) (rp : List (Nat × Value)) (cs cs' : List AV) (cells : Array Value),
    parts.length = rp.length → (∀ (i : Nat) (x : Nat × Nat × AV) (y : Nat × Value), parts[i]? = some x → rp[i]? = some y → place y.1 = some (x.1, x.2.1) ∧ Rep e x.2.2 y.2) →
    RelC e cs cells.toList → afill parts cs = some cs' → ∃ cells', Instr.fill place cells rp = some cells' ∧ RelC e cs' cells'.toList
  | [], [], cs, cs', cells, _, _, hr, h => by cases h; exact ⟨cells, rfl, hr⟩
  | [], _ :: _, _, _, _, hl, _, _, _ => by simp at hl
  | _ :: _, [], _, _, _, hl, _, _, _ => by simp at hl
  | (off, size, v) :: parts, (i, u) :: rp, cs, cs', cells, hl, hrel, hr, h => by
    obtain ⟨hp, hv⟩ := hrel 0 (off, size, v) (i, u) rfl rfl
    simp only at hp hv
    unfold afill at h
    split at h
    · rename_i vcs hvc
      split at h
      · rename_i hc
        obtain ⟨h1, h2⟩ := hc
        obtain ⟨h3, h4⟩ := cells_list hvc hv
        have hk : RelC e vcs u.cells.toList := ⟨h3, h4⟩
        have hcl : cells.size = cs.length := by have := hr.1; simpa using this
        have hus : u.cells.size = size := by have := h3; simp at this; omega
        have hset : (u.cells.zipIdx.foldl (fun cs (c, j) => cs.setIfInBounds (off + j) c) cells).toList = cells.toList.take off ++ u.cells.toList ++ cells.toList.drop (off + u.cells.toList.length) := by
          rw [← Array.foldl_toList, Array.toList_zipIdx]
          have := foldl_set off u.cells.toList 0 cells (by simp; omega)
          simpa using this
        have hr' : RelC e (splice off vcs cs) (u.cells.zipIdx.foldl (fun cs (c, j) => cs.setIfInBounds (off + j) c) cells).toList := by
          rw [hset]
          exact hr.splice hk (by omega)
        obtain ⟨cells', h5, h6⟩ := afill_run place parts rp _ _ _ (by simpa using hl) (fun i x y hx hy => hrel (i + 1) x y (by simpa using hx) (by simpa using hy)) hr' h
        refine ⟨cells', ?_, h6⟩
        rw [Instr.fill]
        simp only [hp]
        rw [if_neg (by simp [hus]; omega)]
        exact h5
      · cases h
    · cases h

/-- A row of cells in pieces of one size. -/
def chunks (sz : Nat) : Nat → List AV → List (List AV)
  | 0, _ => []
  | n + 1, cs => cs.take sz :: chunks sz n (cs.drop sz)

theorem length_chunks (sz : Nat) : ∀ (n : Nat) (cs : List AV), (chunks sz n cs).length = n
  | 0, _ => rfl
  | n + 1, cs => by simp [chunks, length_chunks sz n]

theorem get_chunks (sz : Nat) : ∀ (n : Nat) (cs : List AV) (i : Nat), i < n → (chunks sz n cs)[i]? = some ((cs.drop (i * sz)).take sz)
  | 0, _, i, h => by omega
  | n + 1, cs, 0, _ => by simp [chunks]
  | n + 1, cs, i + 1, h => by
    simp only [chunks, List.getElem?_cons_succ]
    rw [get_chunks sz n _ i (by omega), List.drop_drop]
    congr 3
    rw [Nat.add_mul]; omega

theorem mem_chunks {sz n : Nat} {cs : List AV} (hl : n * sz ≤ cs.length) {x : List AV} (h : x ∈ chunks sz n cs) : x.length = sz := by
  obtain ⟨i, hi, hx⟩ := List.getElem_of_mem h
  rw [length_chunks] at hi
  have h1 := get_chunks sz n cs i hi
  rw [List.getElem?_eq_getElem (by rw [length_chunks]; exact hi), hx] at h1
  simp only [Option.some.injEq] at h1
  subst h1
  have : (i + 1) * sz ≤ n * sz := Nat.mul_le_mul_right _ hi
  rw [Nat.add_mul] at this
  simp; omega

/-- A row that nobody writes any more, as a slice. -/
theorem rep_chunks {k : SK} {sz n b o cap : Nat} {cs : List AV} (hk : k ≠ .nil) (hI : e.I b) (hcap : n ≤ cap) (hex : k = .exact → cap = n) (hl : n * sz ≤ cs.length) (hm : MemAt e b o cs) :
    Rep e (.sl k sz (chunks sz n cs)) (.slice (some ⟨b, o, none⟩) n cap) := by
  have := rep_sl_intro (e := e) (k := k) (sz := sz) (es := chunks sz n cs) (b := b) (o := o) (cap := cap) hk (fun _ => hI) (by rw [length_chunks]; exact hcap)
    (fun h => by rw [length_chunks]; exact hex h) (fun x hx => mem_chunks hl hx) (fun i x hi j c hj => by
      have hin : i < n := by have := (List.getElem?_eq_some_iff.1 hi).1; rwa [length_chunks] at this
      rw [get_chunks sz n cs i hin] at hi
      cases hi
      rw [List.getElem?_take] at hj
      split at hj
      · rw [List.getElem?_drop] at hj
        have := hm _ c hj
        rwa [Nat.add_assoc]
      · cases hj)
  rw [length_chunks] at this
  exact this

/-- New memory that nobody will write. -/
theorem memAt_allocI (hH : HRep e H) {cs : List AV} {us rest : List Value} (t : TypeId) (h : RelC e cs us) :
    MemAt (e.allocI (.cells (us ++ rest).toArray t)) e.w.heap.size 0 cs := fun j c hj => by
  have hj' : j < us.length := by have := (List.getElem?_eq_some_iff.1 hj).1; have := h.1; omega
  obtain ⟨h1, h2⟩ := h.2 j c us[j] hj (by simp [hj'])
  refine ⟨us[j], ?_, h1, h2.ext (ext_allocI e _ hH.imm)⟩
  have hn : (e.allocI (.cells (us ++ rest).toArray t)).w.heap[e.w.heap.size]? = some (.cells (us ++ rest).toArray t) := heap_alloc_new _ _
  simp [World.cell?, hn, List.getElem?_append_left hj', hj']

theorem build_run {t : TypeId} {fs : Array Field} (hu : P.underlying t = some (.struct fs)) {ti : TypeInfo} (hi : P.info? t = some ti) {z : Value} (hz : ti.zero = some z) (h1 : ∀ u ∈ z.cells.toList, u.oneCell' = true)
    {places : List (Nat × Nat)} (hp : fs.toList.mapM (fun f => (P.info? f.type).map fun i => (f.offset, i.size)) = some places)
    {parts : List (Nat × Nat × AV)} {rp : List (Nat × Value)} (hl : parts.length = rp.length)
    (hrel : ∀ (i : Nat) (x : Nat × Nat × AV) (y : Nat × Value), parts[i]? = some x → rp[i]? = some y → places[y.1]? = some (x.1, x.2.1) ∧ Rep e x.2.2 y.2)
    {cs : List AV} (h : afill parts (z.cells.toList.map cAV1) = some cs) : ∃ u, (Instr.build t rp.toArray).run P e.w = .ok u e.w ∧ Rep e (.agg cs) u := by
  obtain ⟨cells', h2, h3⟩ := afill_run (e := e) (places.toArray[·]?) parts rp _ cs z.cells hl (fun i x y hx hy => by simpa using hrel i x y hx hy) (relC_const e _ h1) h
  have h2' : Instr.fill (fun x => places[x]?) z.cells rp = some cells' := by simpa using h2
  have hb : P.built t rp.toArray.toList = some cells' := by simp [Program.built, hi, hu, hz, hp, h2']
  refine ⟨.agg cells', run_build (P := P) e.w t _ cells' hb, ?_⟩
  simpa using h3.agg

/-- The cells of a literal slice before its parts are laid. -/
def zrow (z : Value) (n : Nat) : List Value := ((Array.range n).map (z.cells[· % z.cells.size]!)).toList

theorem bslice_run {t el : TypeId} (ht : P.underlying t = some (.slice el)) {ti : TypeInfo} (hi : P.info? el = some ti) {z : Value} (hz : ti.zero = some z) {len : Nat} (h24 : len * ti.size ≤ 2 ^ 24)
    {zs : List Value} (hzs : zs = if len * ti.size = 0 then [] else zrow z (len * ti.size)) (h1 : ∀ u ∈ zs, u.oneCell' = true)
    {parts : List (Nat × Nat × AV)} {rp : List (Nat × Value)} (hl : parts.length = rp.length)
    (hrel : ∀ (i : Nat) (x : Nat × Nat × AV) (y : Nat × Value), parts[i]? = some x → rp[i]? = some y → (y.1 * ti.size, ti.size) = (x.1, x.2.1) ∧ Rep e x.2.2 y.2)
    {cs : List AV} (h : afill parts (zs.map cAV1) = some cs) : ∃ cells : List Value, cells.length = len * ti.size ∧ RelC e cs cells ∧
      (Instr.buildSlice t len rp.toArray).run P e.w = .ok (.slice (some ⟨e.w.heap.size, 0, none⟩) len len) (e.w.alloc (.cells cells.toArray el)) := by
  obtain ⟨cells', h2, h3⟩ := afill_run (e := e) (fun i => some (i * ti.size, ti.size)) parts rp _ cs zs.toArray hl (fun i x y hx hy => by
    obtain ⟨h4, h5⟩ := hrel i x y hx hy; exact ⟨by rw [h4], h5⟩) (relC_const e zs h1) h
  have hlen : cells'.size = len * ti.size := by
    have hf : ∀ (rp : List (Nat × Value)) (c c' : Array Value), Instr.fill (fun i => some (i * ti.size, ti.size)) c rp = some c' → c'.size = c.size := by
      intro rp
      induction rp with
      | nil => intro c c' h; simp [Instr.fill] at h; rw [h]
      | cons x rp ih =>
        intro c c' h
        rw [Instr.fill] at h
        simp only at h
        split at h
        · cases h
        · have := ih _ _ h
          rw [this]
          have hfold : ∀ (l : List (Value × Nat)) (c : Array Value), (l.foldl (fun cs (c, j) => cs.setIfInBounds (x.1 * ti.size + j) c) c).size = c.size := by
            intro l
            induction l with
            | nil => intro c; rfl
            | cons y l ih2 => intro c; simp only [List.foldl_cons]; rw [ih2]; simp
          rw [← Array.foldl_toList]
          exact hfold _ _
    have := hf _ _ _ h2
    rw [this, hzs]
    split
    · rename_i h0; simp [h0]
    · simp [zrow]
  refine ⟨cells'.toList, by simpa using hlen, h3, ?_⟩
  have hnot : ¬ (16777216 < len * ti.size) := by omega
  by_cases h0 : len * ti.size = 0
  · have hz0 : zs.toArray = #[] := by rw [hzs, if_pos h0]
    rw [hz0] at h2
    have hr : ∀ f : Nat → Value, Array.map f (Array.range 0) = #[] := fun f => by apply Array.ext'; simp
    rcases Nat.mul_eq_zero.1 h0 with h3 | h3
    · subst h3
      simp [Instr.buildSlice, run_underlying ht, sizeOf, run_typeInfo _ hi, h2, newRow, hr]
    · simp only [h3, Nat.mul_zero] at h2
      simp [Instr.buildSlice, run_underlying ht, sizeOf, run_typeInfo _ hi, h3, h2, newRow, hr]
  · have hzz : zs.toArray = (Array.range (len * ti.size)).map (z.cells[· % z.cells.size]!) := by rw [hzs, if_neg h0]; apply Array.ext'; simp [zrow]
    rw [hzz] at h2
    simp [Instr.buildSlice, run_underlying ht, sizeOf, run_typeInfo _ hi, hnot, h0, zeroValue, hz, h2, newRow]

end
end Go.Fw

/- Framework, part 9: make, append. -/
namespace Go.Fw
set_option linter.unusedSimpArgs false
set_option linter.unusedVariables false
open Go
set_option linter.unusedSectionVars false
variable [Globals]

section
variable {P : Program} {e : Env} {H : AHeap}

/-- An object given up. -/
theorem hrep_del (hH : HRep e H) (id : Nat) : HRep e (H.del id) where
  at_ := fun i o hi => by
    simp only [AHeap.del] at hi
    split at hi
    · cases hi
    · exact hH.at_ i o hi
  inj := fun i j o o' hi hj hij => by
    simp only [AHeap.del] at hi hj
    split at hi
    · cases hi
    · split at hj
      · cases hj
      · exact hH.inj i j o o' hi hj hij
  imm := hH.imm
  gl := hH.gl

theorem own_del {id b : Nat} (h : Own e (H.del id) b) : Own e H b := by
  obtain ⟨i, o, h1, h2⟩ := h
  simp only [AHeap.del] at h1
  split at h1
  · cases h1
  · exact ⟨i, o, h1, h2⟩

theorem tr_del {e' : Env} {H' : AHeap} (h : Tr e H e' H') (id : Nat) : Tr e H e' (H'.del id) :=
  ⟨h.ext, h.fr, fun b hb => h.own b (own_del hb), h.im, h.size, h.os, h.tape, h.output⟩

theorem del_set {id N : Nat} {o : AObj} (h : id ≠ N) : (H.set N o).del id = (H.del id).set N o := by
  funext i
  simp only [AHeap.set, AHeap.del]
  by_cases h1 : i = id
  · subst h1; simp [h]
  · simp [h1]

/-- 'make'. -/
def amake (sz bytes : Nat) (zs : List AV) (l c : AV) : Option (Nat × Nat) :=
  match l, c with
  | .lit (.int _ l), .lit (.int _ c) => if 0 ≤ l ∧ l ≤ c ∧ (bytes : Int) * c ≤ 281474976710656 ∧ c ≤ 9223372036854775807 ∧ zs.length = sz then some (l.toNat, c.toNat) else none
  | _, _ => none

theorem get_madeCells {z : Array Value} {n j : Nat} (hj : j < n) (hz : 0 < z.size) : (madeCells z n)[j]? = z[j % z.size]? := by
  have hm : j % z.size < z.size := Nat.mod_lt _ hz
  simp [madeCells, hj, hm]

theorem relC_made {zs : List AV} {z : Value} (hz : RelC e zs z.cells.toList) : ∀ l c : Nat, l ≤ c →
    RelC e ((List.replicate l zs).flatten) ((madeCells z.cells (c * zs.length)).toList.take (l * zs.length)) := by
  intro l c hlc
  have hzl : z.cells.size = zs.length := by have := hz.1; simpa using this
  have hlc' : l * zs.length ≤ c * zs.length := Nat.mul_le_mul_right _ hlc
  have hlen : ∀ n : Nat, ((List.replicate n zs).flatten).length = n * zs.length := fun n => by simp
  have hm : (madeCells z.cells (c * zs.length)).toList.length = c * zs.length := by simp [size_madeCells]
  refine ⟨by rw [hlen, List.length_take, hm]; omega, fun i a u ha hu => ?_⟩
  have hi : i < l * zs.length := by have := (List.getElem?_eq_some_iff.1 ha).1; rwa [hlen] at this
  have h0 : 0 < zs.length := by
    rcases Nat.eq_zero_or_pos zs.length with h | h
    · rw [h] at hi; omega
    · exact h
  rw [List.getElem?_take, if_pos hi, Array.getElem?_toList, get_madeCells (by omega) (by omega), hzl] at hu
  have hget : ∀ n i : Nat, i < n * zs.length → ((List.replicate n zs).flatten)[i]? = zs[i % zs.length]? := by
    intro n
    induction n with
    | zero => intro i hi; omega
    | succ n ih =>
      intro i hi
      rw [List.replicate_succ, List.flatten_cons]
      by_cases h1 : i < zs.length
      · rw [List.getElem?_append_left h1, Nat.mod_eq_of_lt h1]
      · rw [List.getElem?_append_right (by omega), ih _ (by rw [Nat.add_mul] at hi; omega)]
        congr 1
        rw [← Nat.mod_eq_sub_mod (by omega)]
  rw [hget l i hi] at ha
  exact hz.2 _ a u ha (by simpa using hu)

theorem make_run (hH : HRep e H) {t el : TypeId} (ht : P.underlying t = some (.slice el)) {ti : TypeInfo} (hi : P.info? el = some ti) {z : Value} (hz : ti.zero = some z)
    {zs : List AV} (hzs : RelC e zs z.cells.toList) {l c : AV} {vl vc : Value} {n m : Nat} (h : amake ti.size ti.bytes zs l c = some (n, m)) (hl : Rep e l vl) (hc : Rep e c vc) :
    ∃ u e', (Instr.makeSlice t vl vc).run P e.w = .ok u e'.w ∧ Rep e' (.ms e.N 0 n ti.size) u ∧ HRep e' (H.set e.N (.blk ((List.replicate n zs).flatten))) ∧ e'.N = e.N + 1 ∧
      Tr e H e' (H.set e.N (.blk ((List.replicate n zs).flatten))) := by
  unfold amake at h
  split at h
  · rename_i kl l kc c
    split at h
    · rename_i hcond
      obtain ⟨h0, h1, h2, h3, h4⟩ := hcond
      simp only [Option.some.injEq, Prod.mk.injEq] at h
      obtain ⟨rfl, rfl⟩ := h
      cases hl; cases hc
      have hrun := run_make (P := P) e.w t el ti z ht hi hz kl kc l c h0 h1 h2 h3
      have hrel := relC_made hzs l.toNat c.toNat (by omega)
      rw [h4] at hrel
      have hcells : (madeCells z.cells (c.toNat * ti.size)) = ((madeCells z.cells (c.toNat * ti.size)).toList.take (l.toNat * ti.size) ++ (madeCells z.cells (c.toNat * ti.size)).toList.drop (l.toNat * ti.size)).toArray := by
        rw [List.take_append_drop]
      rw [hcells] at hrun
      obtain ⟨g1, g2⟩ := new_obj hH el (rest := (madeCells z.cells (c.toNat * ti.size)).toList.drop (l.toNat * ti.size)) hrel.1 hrel.2
      refine ⟨_, _, hrun, rep_new_ms el (by omega) ?_, g1, rfl, g2⟩
      rw [List.take_append_drop]
      simp [size_madeCells]
    · cases h
  · cases h

/-- What is appended: its cells, and how many elements. -/
def asrc (H : AHeap) (sz : Nat) : AV → Option (List AV × Nat)
  | .sl _ sz' es => if sz' = sz ∨ es = [] then some (es.flatten, es.length) else none
  | .ms id off len sz' => match H id with
    | some (.blk cs) => if sz' = sz ∧ off + len * sz ≤ cs.length then some ((cs.drop off).take (len * sz), len) else none
    | _ => none
  | _ => none

/-- The cells of a slice, as the model finds them. -/
def Src (P : Program) (e : Env) (sz : Nat) (v : Value) (m : Nat) (us : List Value) : Prop :=
  (∃ a c, v = .slice a m c) ∧ us.length = m * sz ∧ ∀ w : World, w.heap = e.w.heap → (Builtin.firstCells sz m v).run P w = .ok us.toArray w

theorem memAt_list {b o : Nat} {cs : List AV} (hm : MemAt e b o cs) : ∃ us : List Value, RelC e cs us ∧ ∀ (j : Nat) (u : Value), us[j]? = some u → e.w.cell? ⟨b, o + j, none⟩ = some u := by
  refine ⟨(List.range cs.length).map fun j => (e.w.cell? ⟨b, o + j, none⟩).getD undef, ⟨by simp, fun i a u ha hu => ?_⟩, fun j u hu => ?_⟩
  · have hi : i < cs.length := (List.getElem?_eq_some_iff.1 ha).1
    obtain ⟨v, h1, h2, h3⟩ := hm i a ha
    simp [hi, h1] at hu
    subst hu
    exact ⟨h2, h3⟩
  · rw [List.getElem?_map] at hu
    cases hr : (List.range cs.length)[j]? with
    | none => simp [hr] at hu
    | some k =>
      have hj : j < cs.length := by have := (List.getElem?_eq_some_iff.1 hr).1; simpa using this
      have hk : j = k := by have := (List.getElem?_eq_some_iff.1 hr).2; simpa using this
      subst hk
      simp [hr] at hu
      obtain ⟨v, h1, h2, h3⟩ := hm j cs[j] (by simp [hj])
      rw [h1] at hu ⊢
      simpa using hu

theorem src_of_mem {sz m b o c : Nat} {cs : List AV} (hl : cs.length = m * sz) (hm : MemAt e b o cs) :
    ∃ us, RelC e cs us ∧ Src P e sz (.slice (some ⟨b, o, none⟩) m c) m us := by
  obtain ⟨us, h1, h2⟩ := memAt_list hm
  refine ⟨us, h1, ⟨_, _, rfl⟩, by rw [h1.1, hl], fun w hw => ?_⟩
  refine run_firstCells_some (P := P) w sz m ⟨b, o, none⟩ m c us (by rw [h1.1, hl]) (fun j u hu => ?_)
  rw [addr_add]
  rw [← h2 j u hu]
  simp [World.cell?, hw]

theorem flatten_memAt {sz b o : Nat} : ∀ {es : List (List AV)}, (∀ x ∈ es, x.length = sz) → (∀ (i : Nat) (x : List AV), es[i]? = some x → MemAt e b (o + i * sz) x) → MemAt e b o es.flatten := by
  intro es hsz hm
  have hgen : ∀ (es : List (List AV)) (o : Nat), (∀ x ∈ es, x.length = sz) → (∀ (i : Nat) (x : List AV), es[i]? = some x → MemAt e b (o + i * sz) x) → MemAt e b o es.flatten := by
    intro es
    induction es with
    | nil => intro o _ _ j c hj; simp at hj
    | cons x es ih =>
      intro o hsz hm j c hj
      rw [List.flatten_cons] at hj
      have hx := hsz x (by simp)
      by_cases h1 : j < x.length
      · rw [List.getElem?_append_left h1] at hj
        have := hm 0 x rfl j c hj
        simpa using this
      · rw [List.getElem?_append_right (by omega), hx] at hj
        have := ih (o + sz) (fun y hy => hsz y (by simp [hy])) (fun i y hi => by
          have := hm (i + 1) y (by simpa using hi)
          rw [Nat.add_mul] at this
          rw [Nat.add_assoc, Nat.add_comm sz]
          simpa using this) _ c hj
        obtain ⟨u, h2, h3, h4⟩ := this
        refine ⟨u, ?_, h3, h4⟩
        rw [← h2]
        congr 2
        omega
  exact hgen es o hsz hm

theorem length_flatten_eq {sz : Nat} : ∀ {es : List (List AV)}, (∀ x ∈ es, x.length = sz) → es.flatten.length = es.length * sz
  | [], _ => by simp
  | x :: es, h => by
    rw [List.flatten_cons, List.length_append, h x (by simp), length_flatten_eq (fun y hy => h y (by simp [hy])), List.length_cons, Nat.add_mul]
    omega

theorem asrc_run (hH : HRep e H) {sz : Nat} {x : AV} {v : Value} {cs : List AV} {m : Nat} (h : asrc H sz x = some (cs, m)) (hx : Rep e x v) :
    ∃ us, RelC e cs us ∧ cs.length = m * sz ∧ Src P e sz v m us := by
  unfold asrc at h
  split at h
  · rename_i k sz' es
    split at h
    · rename_i hsz
      simp only [Option.some.injEq, Prod.mk.injEq] at h
      obtain ⟨rfl, rfl⟩ := h
      rcases rep_sl_inv hx with ⟨rfl, rfl, rfl⟩ | ⟨hk, b, o, cap, rfl, hcap, hex, hI, hel, hm⟩ | ⟨hk, rfl, ad, rfl⟩
      rotate_right
      · exact ⟨[], ⟨rfl, fun i a u ha => by simp at ha⟩, by simp, ⟨_, _, rfl⟩, by simp, fun w _ => run_firstCells_some (P := P) w sz 0 ad 0 0 [] (by simp) (fun j u hu => by simp at hu)⟩
      · exact ⟨[], ⟨rfl, fun i a u ha => by simp at ha⟩, by simp, ⟨_, _, rfl⟩, by simp, fun w _ => run_firstCells_none (P := P) w sz 0 0 0⟩
      · rcases hsz with rfl | rfl
        · obtain ⟨us, h1, h2⟩ := src_of_mem (P := P) (c := cap) (length_flatten_eq hel) (flatten_memAt hel hm)
          exact ⟨us, h1, length_flatten_eq hel, h2⟩
        · obtain ⟨us, h1, h2⟩ := src_of_mem (P := P) (e := e) (sz := sz) (m := 0) (b := b) (o := o) (c := cap) (cs := []) (by simp) (fun j c hj => by simp at hj)
          exact ⟨us, h1, by simp, h2⟩
    · cases h
  · rename_i id off len sz'
    split at h
    · rename_i cs' hid
      split at h
      · rename_i hc
        obtain ⟨rfl, hle⟩ := hc
        simp only [Option.some.injEq, Prod.mk.injEq] at h
        obtain ⟨rfl, rfl⟩ := h
        obtain ⟨_, ad, cap, hsp, rfl, hlen, hroom⟩ := rep_ms_inv hx
        have hl : ((cs'.drop off).take (len * sz')).length = len * sz' := by simp; omega
        rcases hroom with h0 | ⟨rfl, _⟩
        · have h00 : len = 0 := by omega
          subst h00
          obtain ⟨b, o, s⟩ := ad
          refine ⟨[], ⟨by simp, fun i a u ha => by simp at ha⟩, by simp, ⟨_, _, rfl⟩, by simp, fun w _ => ?_⟩
          exact run_firstCells_some (P := P) w sz' 0 ⟨b, o, s⟩ 0 cap [] (by simp) (fun j u hu => by simp at hu)
        · obtain ⟨us, h1, h2⟩ := src_of_mem (P := P) (e := e) (b := (e.ρ id).1) (o := (e.ρ id).2 + off) (c := cap) hl (fun j c hj => by
            rw [List.getElem?_take] at hj
            split at hj
            · rw [List.getElem?_drop] at hj
              have := memAt_obj hH hid _ c hj
              rwa [Nat.add_assoc]
            · cases hj)
          exact ⟨us, h1, hl, h2⟩
      · cases h
    · cases h
  · cases h

end
end Go.Fw
