/- Framework, part 1: abstract values, what they stand for in a world, and how that is kept. -/
import Derived.WalkKit
import Derived.WalkSpells
import Derived.WalkLawsBesides
import Derived.Deep.LoopGhost
import Derived.Orders
import Derived.KernelRfl
import Derived.RangeFuncRecord
import Derived.OrdersIn
import Derived.TacticsIn
namespace Go.Fw
set_option linter.unusedSimpArgs false
set_option linter.unusedVariables false
open Go
set_option linter.unusedSectionVars false

/-- What is known of a slice that nobody writes any more: nil; its capacity is its length; nothing of its capacity. -/
inductive SK where
  | nil | exact | any
  deriving DecidableEq, Repr

/-- Abstract values. -/
inductive AV where
  | lit (v : Value)
  | agg (cs : List AV)
  | tup (cs : List AV)
  | sl (k : SK) (sz : Nat) (es : List (List AV))
  | ip (cs : List AV) (off : Nat)
  | mp (id off : Nat)
  | ms (id off len sz : Nat)
  | mm (id : Nat)
  | fn (f : Fn) (first capt : List AV)
  | ifc (t : TypeId) (a : AV)
  | yl (id : Nat)
  | junk
  deriving Inhabited

/-- What package-level variables hold that nobody writes: their cells. -/
class Globals where
  tbl : Nat → Option (List AV)

variable [Globals]

/-- The ghost side of a world: which blocks nobody writes any more, where the abstract objects lie, how many numbers have been given. -/
structure Env where
  w : World
  I : Nat → Prop
  ρ : Nat → Nat × Nat
  N : Nat

inductive Rep (e : Env) : AV → Value → Prop where
  | lit (v : Value) : Rep e (.lit v) v
  | agg {cs : List AV} {vs : List Value} (hl : vs.length = cs.length) (h1 : ∀ v ∈ vs, v.oneCell' = true) (h : ∀ (i : Nat) (c : AV) (v : Value), cs[i]? = some c → vs[i]? = some v → Rep e c v) : Rep e (.agg cs) (.agg vs.toArray)
  | tup {cs : List AV} {vs : List Value} (hl : vs.length = cs.length) (h : ∀ (i : Nat) (c : AV) (v : Value), cs[i]? = some c → vs[i]? = some v → Rep e c v) : Rep e (.tup cs) (.tuple vs.toArray)
  | slNil (sz : Nat) : Rep e (.sl .nil sz []) (.slice none 0 0)
  | sl {k : SK} {sz : Nat} {es : List (List AV)} {b o cap : Nat} (u : Nat → Nat → Value) (hk : k ≠ .nil) (hI : es ≠ [] → e.I b) (hcap : es.length ≤ cap) (hex : k = .exact → cap = es.length)
      (hsz : ∀ x ∈ es, x.length = sz)
      (hc : ∀ (i j : Nat) (x : List AV) (c : AV), es[i]? = some x → x[j]? = some c → e.w.cell? ⟨b, o + i * sz + j, none⟩ = some (u i j))
      (h1 : ∀ (i j : Nat) (x : List AV) (c : AV), es[i]? = some x → x[j]? = some c → (u i j).oneCell' = true)
      (hr : ∀ (i j : Nat) (x : List AV) (c : AV), es[i]? = some x → x[j]? = some c → Rep e c (u i j)) : Rep e (.sl k sz es) (.slice (some ⟨b, o, none⟩) es.length cap)
  | slE {k : SK} {sz : Nat} {ad : Addr} (hk : k ≠ .nil) : Rep e (.sl k sz []) (.slice (some ad) 0 0)
  | ip {cs : List AV} {off b o : Nat} (u : Nat → Value) (hI : e.I b)
      (hc : ∀ (j : Nat) (c : AV), cs[j]? = some c → e.w.cell? ⟨b, o + j, none⟩ = some (u j))
      (h1 : ∀ (j : Nat) (c : AV), cs[j]? = some c → (u j).oneCell' = true)
      (hr : ∀ (j : Nat) (c : AV), cs[j]? = some c → Rep e c (u j)) : Rep e (.ip cs off) (.pointer (some ⟨b, o + off, none⟩))
  | mp {id off : Nat} (h : id < e.N) : Rep e (.mp id off) (.pointer (some ⟨(e.ρ id).1, (e.ρ id).2 + off, none⟩))
  | ms {id off len sz cap : Nat} {ad : Addr} (h : id < e.N) (hlen : len ≤ cap)
      (hroom : cap = 0 ∨ (ad = ⟨(e.ρ id).1, (e.ρ id).2 + off, none⟩ ∧ ∃ (c : Array Value) (t : TypeId) (fz : Nat × Nat), e.w.heap[(e.ρ id).1]? = some (.cells c t fz) ∧ (e.ρ id).2 + off + cap * sz ≤ c.size))
      (hsp : ad.spot = none := by first | rfl | assumption) : Rep e (.ms id off len sz) (.slice (some ad) len cap)
  | mm {id : Nat} (h : id < e.N) : Rep e (.mm id) (.map (some (e.ρ id).1))
  | fn {f : Fn} {first capt : List AV} {fs cs : List Value} (hf : fs.length = first.length) (hc : cs.length = capt.length)
      (h1 : ∀ (i : Nat) (c : AV) (v : Value), first[i]? = some c → fs[i]? = some v → Rep e c v) (h2 : ∀ (i : Nat) (c : AV) (v : Value), capt[i]? = some c → cs[i]? = some v → Rep e c v) :
      Rep e (.fn f first capt) (.func f fs.toArray cs.toArray)
  | ifc {t : TypeId} {a : AV} {v : Value} (h : Rep e a v) : Rep e (.ifc t a) (.iface t v)
  | yl {id : Nat} (h : id < e.N) : Rep e (.yl id) (.func (.yield (e.ρ id).1) #[] #[])
  | junk (v : Value) : Rep e .junk v

/-- How a world may go on: what nobody writes stays; blocks keep their shape. -/
structure Ext (e e' : Env) : Prop where
  I : ∀ b, e.I b → e'.I b
  imm : ∀ b, e.I b → e'.w.heap[b]? = e.w.heap[b]?
  ρ : ∀ id, id < e.N → e'.ρ id = e.ρ id
  N : e.N ≤ e'.N
  shape : ∀ (b : Nat) (c : Array Value) (t : TypeId) (fz : Nat × Nat), e.w.heap[b]? = some (.cells c t fz) → ∃ (c' : Array Value) (fz' : Nat × Nat), e'.w.heap[b]? = some (.cells c' t fz') ∧ c'.size = c.size

theorem Ext.refl (e : Env) : Ext e e := ⟨fun _ h => h, fun _ _ => rfl, fun _ _ => rfl, Nat.le_refl _, fun _ c _ fz h => ⟨c, fz, h, rfl⟩⟩

theorem Ext.trans {a b c : Env} (h : Ext a b) (k : Ext b c) : Ext a c where
  I := fun x hx => k.I x (h.I x hx)
  imm := fun x hx => (k.imm x (h.I x hx)).trans (h.imm x hx)
  ρ := fun id hi => (k.ρ id (Nat.lt_of_lt_of_le hi h.N)).trans (h.ρ id hi)
  N := Nat.le_trans h.N k.N
  shape := fun x cs t fz hx => by
    obtain ⟨c1, f1, h1, s1⟩ := h.shape x cs t fz hx
    obtain ⟨c2, f2, h2, s2⟩ := k.shape x c1 t f1 h1
    exact ⟨c2, f2, h2, s2.trans s1⟩

theorem cell_of_block {w w' : World} {a : Addr} (h : w'.heap[a.block]? = w.heap[a.block]?) : w'.cell? a = w.cell? a := by
  simp [World.cell?, h]

theorem Rep.ext {e e' : Env} (x : Ext e e') {a : AV} {v : Value} (h : Rep e a v) : Rep e' a v := by
  induction h with
  | lit v => exact .lit v
  | agg hl h1 _ ih => exact .agg hl h1 ih
  | tup hl _ ih => exact .tup hl ih
  | slNil sz => exact .slNil sz
  | slE hk => exact .slE hk
  | sl u hk hI hcap hex hsz hc g1 _ ih =>
    refine .sl u hk (fun hne => x.I _ (hI hne)) hcap hex hsz (fun i j y c h1 h2 => ?_) g1 ih
    rw [cell_of_block (x.imm _ (hI (fun hne => by rw [hne] at h1; simp at h1)))]
    exact hc i j y c h1 h2
  | ip u hI hc g1 _ ih =>
    refine .ip u (x.I _ hI) (fun j c h1 => ?_) g1 ih
    rw [cell_of_block (x.imm _ hI)]
    exact hc j c h1
  | mp h => rw [← x.ρ _ h]; exact .mp (Nat.lt_of_lt_of_le h x.N)
  | ms h hl hroom hsp =>
    refine .ms (Nat.lt_of_lt_of_le h x.N) hl ?_ hsp
    rcases hroom with h0 | ⟨had, c, t, fz, h1, h2⟩
    · exact .inl h0
    · obtain ⟨c', fz', h1', h2'⟩ := x.shape _ c t fz h1
      rw [x.ρ _ h]
      exact .inr ⟨had, c', t, fz', h1', by rw [h2']; exact h2⟩
  | mm h => rw [← x.ρ _ h]; exact .mm (Nat.lt_of_lt_of_le h x.N)
  | fn hf hc _ _ i1 i2 => exact .fn hf hc i1 i2
  | ifc _ ih => exact .ifc ih
  | yl h => rw [← x.ρ _ h]; exact .yl (Nat.lt_of_lt_of_le h x.N)
  | junk v => exact .junk v

/-- What lies at a number of the abstract heap. -/
inductive AObj where
  | blk (cs : List AV)
  | map (es : List (Value × AV))
  | loop (r : Loop) (A : Nat → AV)
  deriving Inhabited

abbrev AHeap := Nat → Option AObj

def ORep (e : Env) (b base : Nat) : AObj → Prop
  | .blk cs => ∃ (c : Array Value) (t : TypeId), e.w.heap[b]? = some (.cells c t (0, 0)) ∧ base + cs.length ≤ c.size ∧ ∀ (j : Nat) (a : AV), cs[j]? = some a → ∃ u, c[base + j]? = some u ∧ u.oneCell' = true ∧ Rep e a u
  | .map es => ∃ (ents : Array MapEntry) (clock : Nat), e.w.heap[b]? = some (.map ents clock) ∧ ents.size = es.length ∧ (∀ i : Nat, (ents[i]?).map (·.key) = (es[i]?).map (·.1)) ∧
      (∀ (i : Nat) (k : Value) (a : AV) (x : MapEntry), es[i]? = some (k, a) → ents[i]? = some x → Rep e a x.val) ∧ MapKept.Stamped ents clock
  | .loop r A => e.w.heap[b]? = some (.loop r) ∧ ∀ t : Nat, Rep e (A t) (r.tmps.getD t undef)

/-- The package-level variables hold what they are told to. -/
def GlobOk (e : Env) : Prop := ∀ g cs, Globals.tbl g = some cs → Rep e (.ip cs 0) (.pointer (some ⟨g, 0, none⟩))

theorem GlobOk.ext {e e' : Env} (h : GlobOk e) (x : Ext e e') : GlobOk e' := fun g cs hg => (h g cs hg).ext x

structure HRep (e : Env) (H : AHeap) : Prop where
  at_ : ∀ id o, H id = some o → id < e.N ∧ ¬ e.I (e.ρ id).1 ∧ ORep e (e.ρ id).1 (e.ρ id).2 o
  inj : ∀ i j o o', H i = some o → H j = some o' → (e.ρ i).1 = (e.ρ j).1 → i = j
  imm : ∀ b, e.I b → b < e.w.heap.size
  gl : GlobOk e

def Own (e : Env) (H : AHeap) (b : Nat) : Prop := ∃ id o, H id = some o ∧ (e.ρ id).1 = b

theorem ORep.lt {e : Env} {b base : Nat} {o : AObj} (h : ORep e b base o) : b < e.w.heap.size := by
  cases o with
  | blk cs => obtain ⟨c, t, h1, _⟩ := h; exact (Array.getElem?_eq_some_iff.1 h1).1
  | map es => obtain ⟨c, t, h1, _⟩ := h; exact (Array.getElem?_eq_some_iff.1 h1).1
  | loop r A => exact (Array.getElem?_eq_some_iff.1 h.1).1

theorem HRep.own_lt {e : Env} {H : AHeap} (h : HRep e H) {b : Nat} (hb : Own e H b) : b < e.w.heap.size := by
  obtain ⟨id, o, h1, h2⟩ := hb
  rw [← h2]
  exact (h.at_ id o h1).2.2.lt

theorem HRep.own_imm {e : Env} {H : AHeap} (h : HRep e H) {b : Nat} (hb : Own e H b) : ¬ e.I b := by
  obtain ⟨id, o, h1, h2⟩ := hb
  rw [← h2]
  exact (h.at_ id o h1).2.1

/-- What a piece of a run does: the step relation on worlds with their ghost sides. -/
structure Tr (e : Env) (H : AHeap) (e' : Env) (H' : AHeap) : Prop where
  ext : Ext e e'
  fr : ∀ b, b < e.w.heap.size → ¬ Own e H b → e'.w.heap[b]? = e.w.heap[b]?
  own : ∀ b, Own e' H' b → Own e H b ∨ e.w.heap.size ≤ b
  im : ∀ b, e'.I b → e.I b ∨ Own e H b ∨ e.w.heap.size ≤ b
  size : e.w.heap.size ≤ e'.w.heap.size
  os : e'.w.os = e.w.os
  tape : e'.w.tape = e.w.tape
  output : e'.w.output = e.w.output

theorem Tr.refl (e : Env) (H : AHeap) : Tr e H e H :=
  ⟨.refl e, fun _ _ _ => rfl, fun _ h => .inl h, fun _ h => .inl h, Nat.le_refl _, rfl, rfl, rfl⟩

theorem Tr.trans {a b c : Env} {H K L : AHeap} (h : Tr a H b K) (k : Tr b K c L) : Tr a H c L where
  ext := h.ext.trans k.ext
  fr := fun x hx hn => by
    rw [k.fr x (Nat.lt_of_lt_of_le hx h.size) (fun hk => by rcases h.own x hk with h1 | h1; exact hn h1; omega)]
    exact h.fr x hx hn
  own := fun x hx => by
    rcases k.own x hx with h1 | h1
    · exact h.own x h1
    · exact .inr (Nat.le_trans h.size h1)
  im := fun x hx => by
    rcases k.im x hx with h1 | h1 | h1
    · exact h.im x h1
    · rcases h.own x h1 with h2 | h2
      · exact .inr (.inl h2)
      · exact .inr (.inr h2)
    · exact .inr (.inr (Nat.le_trans h.size h1))
  size := Nat.le_trans h.size k.size
  os := k.os.trans h.os
  tape := k.tape.trans h.tape
  output := k.output.trans h.output

/-- The abstract state. -/
structure St where
  A : Nat → AV
  H : AHeap
  N : Nat

def St.put (s : St) (d : Option Nat) (v : AV) : St :=
  match d with
  | some d => { s with A := fun t => if t = d then v else s.A t }
  | none => s

/-- A cell that is a constant. -/
def cAV1 : Value → AV
  | .slice none 0 0 => .sl .nil 0 []
  | v => .lit v

/-- A constant. -/
def cAV : Value → AV
  | .agg cs => if cs.toList.all Value.oneCell' then .agg (cs.toList.map cAV1) else .lit (.agg cs)
  | v => cAV1 v

theorem rep_cAV1 (e : Env) (v : Value) : Rep e (cAV1 v) v := by
  unfold cAV1
  split
  · exact .slNil 0
  · exact .lit _

theorem rep_cAV (e : Env) (v : Value) : Rep e (cAV v) v := by
  unfold cAV
  split
  · rename_i cs
    split
    · rename_i h
      refine .agg (vs := cs.toList) (by simp) (fun v hv => List.all_eq_true.1 h v hv) (fun i c v h1 h2 => ?_)
      simp only [List.getElem?_map, h2, Option.map_some, Option.some.injEq] at h1
      rw [← h1]
      exact rep_cAV1 e v
    · exact .lit _
  · exact rep_cAV1 e v

/-- Operands, compiled. -/
inductive AX where
  | tmp (t : Nat)
  | val (a : AV)
  | glob (g : Nat)
  deriving Inhabited

def cX : Operand → AX
  | .tmp t => .tmp t
  | .const v => .val (cAV v)
  | .global g => .glob g
  | .func f => .val (.fn (.func f) [] [])

/-- Where a package-level variable lies. -/
def gptr (g : Nat) : AV := match Globals.tbl g with
  | some cs => .ip cs 0
  | none => .lit (.pointer (some ⟨g, 0, none⟩))

def St.ev (s : St) : AX → AV
  | .tmp t => s.A t
  | .val a => a
  | .glob g => gptr g

structure Gam (e : Env) (n : Nat) (s : St) (a : Act) : Prop where
  N : e.N = s.N
  H : HRep e s.H
  size : a.tmps.size = n
  tm : ∀ t, Rep e (s.A t) (a.tmps.getD t undef)

theorem Gam.ev {e : Env} {n : Nat} {s : St} {a : Act} (g : Gam e n s a) (x : Operand) : Rep e (s.ev (cX x)) (a.eval x) := by
  cases x with
  | tmp t => exact g.tm t
  | const v => exact rep_cAV e v
  | global x =>
    simp only [cX, St.ev, gptr]
    split
    · rename_i cs hcs; exact g.H.gl x cs hcs
    · exact .lit _
  | func f => exact .fn (fs := []) (cs := []) rfl rfl (fun i c v h => by simp at h) (fun i c v h => by simp at h)

theorem getD_set (a : Array Value) (d t : Nat) (v : Value) (hd : d < a.size) : (a.setIfInBounds d v).getD t undef = if t = d then v else a.getD t undef := by
  by_cases h : t = d
  · subst h; simp [hd]
  · simp only [Array.getD_eq_getD_getElem?, Array.getElem?_setIfInBounds, if_neg h, if_neg (fun h' => h (Eq.symm h') : ¬ d = t)]

/-- One temporary written. -/
theorem Gam.put {e : Env} {n : Nat} {s : St} {a : Act} (g : Gam e n s a) {d : Option Nat} (hd : ∀ x, d = some x → x < n) {av : AV} {v : Value} (h : Rep e av v) :
    Gam e n (s.put d av) (a.put d v) := by
  cases d with
  | none => exact g
  | some d =>
    have hd' := hd d rfl
    refine ⟨g.N, g.H, by simp [Act.put, g.size], fun t => ?_⟩
    simp only [St.put, Act.put]
    rw [getD_set _ _ _ _ (by rw [g.size]; exact hd')]
    split
    · exact h
    · exact g.tm t

/-- The same temporaries in a later world. -/
theorem Gam.move {e e' : Env} {n : Nat} {s : St} {a : Act} (g : Gam e n s a) (x : Ext e e') {H' : AHeap} (hH : HRep e' H') : Gam e' n { s with H := H', N := e'.N } a :=
  ⟨rfl, hH, g.size, fun t => (g.tm t).ext x⟩

end Go.Fw
