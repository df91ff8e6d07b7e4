/- Framework, part 3: operations over abstract values that leave the abstract heap alone, and that the model does the same. -/
import Derived.Test.YtmgmgeijfkcglaaF2
namespace Go.Fw
set_option linter.unusedSimpArgs false
set_option linter.unusedVariables false
open Go
set_option linter.unusedSectionVars false
variable [Globals]

/-- How '==' is meant at a type. -/
inductive ET where
  | num | bool | ptr | slice | map | func | iface | other
  deriving DecidableEq, Repr, Inhabited

def etOf (P : Program) (t : TypeId) : ET :=
  match P.underlying t with
  | some (.int _) => .num
  | some .string => .num
  | some .bool => .bool
  | some (.pointer _) => .ptr
  | some (.slice _) => .slice
  | some (.map _ _) => .map
  | some (.func _ _ _) => .func
  | some (.interface _) => .iface
  | _ => .other

/-- Whole numbers of one kind. -/
def iand (k : IntKind) (a b : Int) : Int := k.wrap (BitVec.ofInt k.bits a &&& BitVec.ofInt k.bits b).toNat
def ior (k : IntKind) (a b : Int) : Int := k.wrap (BitVec.ofInt k.bits a ||| BitVec.ofInt k.bits b).toNat
def ixor (k : IntKind) (a b : Int) : Int := k.wrap (BitVec.ofInt k.bits a ^^^ BitVec.ofInt k.bits b).toNat
def iandn (k : IntKind) (a b : Int) : Int := k.wrap (BitVec.ofInt k.bits a &&& ~~~BitVec.ofInt k.bits b).toNat
def ishl (k : IntKind) (a b : Int) : Int := k.wrap (a * 2 ^ (min b.toNat k.bits))
def ishr (k : IntKind) (a b : Int) : Int := a.fdiv (2 ^ (min b.toNat k.bits))

def ibin (op : BinOp) (k : IntKind) (a b : Int) : Option Value :=
  match op with
  | .add => some (.int k (k.wrap (a + b)))
  | .sub => some (.int k (k.wrap (a - b)))
  | .mul => some (.int k (k.wrap (a * b)))
  | .quo => if b = 0 then none else some (.int k (k.wrap (a.tdiv b)))
  | .rem => if b = 0 then none else some (.int k (a.tmod b))
  | .eql => some (.bool (decide (a = b)))
  | .neq => some (.bool (!decide (a = b)))
  | .lss => some (.bool (decide (a < b)))
  | .leq => some (.bool (decide (a ≤ b)))
  | .gtr => some (.bool (decide (b < a)))
  | .geq => some (.bool (decide (b ≤ a)))
  | .and => some (.int k (iand k a b))
  | .or => some (.int k (ior k a b))
  | .xor => some (.int k (ixor k a b))
  | .andNot => some (.int k (iandn k a b))
  | _ => none

/-- Numbers of kinds that may be two. -/
def ibin2 (op : BinOp) (k : IntKind) (a : Int) (k' : IntKind) (b : Int) : Option Value :=
  match op with
  | .shl => if 0 ≤ b then some (.int k (ishl k a b)) else none
  | .shr => if 0 ≤ b then some (.int k (ishr k a b)) else none
  | op => if k = k' then ibin op k a b else none

/-- Texts. -/
def sbin (op : BinOp) (a b : ByteArray) : Option Value :=
  match op with
  | .eql => some (.bool (a.toList == b.toList))
  | .neq => some (.bool (!(a.toList == b.toList)))
  | .lss => some (.bool (Op.bytesLess a.toList b.toList))
  | .leq => some (.bool (Op.bytesLess a.toList b.toList || a.toList == b.toList))
  | .gtr => some (.bool (!(Op.bytesLess a.toList b.toList || a.toList == b.toList)))
  | .geq => some (.bool (!Op.bytesLess a.toList b.toList))
  | _ => none

/-- Is it nil (where that is known)? -/
def nilOf (et : ET) : AV → Option Bool
  | .lit (.pointer none) => if et = .ptr then some true else none
  | .ip _ _ => if et = .ptr then some false else none
  | .mp _ _ => if et = .ptr then some false else none
  | .sl .nil _ _ => if et = .slice then some true else none
  | .sl .exact _ _ => if et = .slice then some false else none
  | .sl .any _ _ => if et = .slice then some false else none
  | .ms _ _ _ _ => if et = .slice then some false else none
  | .lit (.map none) => if et = .map then some true else none
  | .mm _ => if et = .map then some false else none
  | .lit .nilFunc => if et = .func then some true else none
  | .fn _ _ _ => if et = .func then some false else none
  | _ => none

def abin (op : BinOp) (et : ET) (x y : AV) : Option AV :=
  match x, y with
  | .lit (.int k a), .lit (.int k' b) => (ibin2 op k a k' b).map .lit
  | .lit (.string a), .lit (.string b) => (sbin op a b).map .lit
  | .lit (.bool a), .lit (.bool b) =>
    if et = .bool then (match op with | .eql => some (.lit (.bool (a == b))) | .neq => some (.lit (.bool (!(a == b)))) | _ => none) else none
  | x, y =>
    match nilOf et x, nilOf et y with
    | some a, some b => if (a || b) = true then (match op with | .eql => some (.lit (.bool (a && b))) | .neq => some (.lit (.bool (!(a && b)))) | _ => none) else none
    | _, _ => none

section
variable {P : Program}

theorem ibin_run {op : BinOp} {k : IntKind} {a b : Int} {v : Value} (h : ibin op k a b = some v) (t : TypeId) (w : World) :
    (binOp op t (.int k a) (.int k b)).run P w = .ok v w := by
  unfold ibin at h
  split at h
  case h_4 =>
    split at h
    · cases h
    · cases h; rename_i hb; simp [binOp, Op.intDiv, hb]
  case h_5 =>
    split at h
    · cases h
    · cases h; rename_i hb; simp [binOp, Op.intDiv, hb]
  all_goals first
    | (cases h; simp [binOp, Op.intArith, Op.intCmp, Op.intBits, iand, ior, ixor, iandn]; done)
    | (cases h; simp [binOp, Op.intArith, Op.intCmp]; first | rfl | (congr 1; done) | skip)
    | cases h

theorem ibin2_run {op : BinOp} {k k' : IntKind} {a b : Int} {v : Value} (h : ibin2 op k a k' b = some v) (t : TypeId) (w : World) :
    (binOp op t (.int k a) (.int k' b)).run P w = .ok v w := by
  unfold ibin2 at h
  split at h
  · split at h
    · rename_i hb
      cases h
      have : ¬ b < 0 := by omega
      simp [binOp, Op.shift, this, ishl, ishr]
    · cases h
  · split at h
    · rename_i hb
      cases h
      have : ¬ b < 0 := by omega
      simp [binOp, Op.shift, this, ishl, ishr]
    · cases h
  · split at h
    · rename_i hk
      subst hk
      exact ibin_run h t w
    · cases h

theorem sbin_run {op : BinOp} {a b : ByteArray} {v : Value} (h : sbin op a b = some v) (t : TypeId) (w : World) :
    (binOp op t (.string a) (.string b)).run P w = .ok v w := by
  unfold sbin at h
  split at h <;> first | (cases h; simp [binOp, Op.stringOp]; done) | cases h

theorem eqGuard_run {op : BinOp} {t : TypeId} {x y : Operand} {a b : Value} {w : World} (h1 : ¬ (a = .nilIface ∧ b = .nilIface)) (h2 : ∀ cs ds, ¬ (a = .agg cs ∧ b = .agg ds)) :
    (eqGuard op t x y a b).run P w = .ok () w := by
  have key : eqGuard op t x y a b = pure () := by
    unfold eqGuard
    cases op <;> first | rfl | skip
    all_goals
      rw [if_neg (by decide)]
      split
      · exact absurd ⟨rfl, rfl⟩ h1
      · exact absurd ⟨rfl, rfl⟩ (h2 _ _)
      · rfl
  rw [key]; rfl

theorem nilOf_ptr {e : Env} {a : AV} {v : Value} {b : Bool} (h : nilOf .ptr a = some b) (r : Rep e a v) : ∃ p, v = .pointer p ∧ p.isNone = b := by
  unfold nilOf at h
  split at h <;> simp at h <;> cases r <;> subst h <;> exact ⟨_, rfl, rfl⟩

theorem nilOf_slice {e : Env} {a : AV} {v : Value} {b : Bool} (h : nilOf .slice a = some b) (r : Rep e a v) : ∃ p n c, v = .slice p n c ∧ p.isNone = b := by
  unfold nilOf at h
  split at h <;> simp at h <;> cases r <;> subst h <;> first | exact ⟨_, _, _, rfl, rfl⟩ | contradiction

theorem nilOf_map {e : Env} {a : AV} {v : Value} {b : Bool} (h : nilOf .map a = some b) (r : Rep e a v) : ∃ p, v = .map p ∧ p.isNone = b := by
  unfold nilOf at h
  split at h <;> simp at h <;> cases r <;> subst h <;> exact ⟨_, rfl, rfl⟩

theorem nilOf_func {e : Env} {a : AV} {v : Value} {b : Bool} (h : nilOf .func a = some b) (r : Rep e a v) : (b = true ∧ v = .nilFunc) ∨ (b = false ∧ ∃ f x c, v = .func f x c) := by
  unfold nilOf at h
  split at h <;> simp at h <;> cases r <;> subst h <;> first | exact .inl ⟨rfl, rfl⟩ | exact .inr ⟨rfl, _, _, _, rfl⟩

theorem equalIn_ptr (n : Nat) {t el : TypeId} (ht : P.underlying t = some (.pointer el)) {p q : Option Addr} (h : p.isNone = true ∨ q.isNone = true) (w : World) :
    (Op.equalIn (n + 1) t (.pointer p) (.pointer q)).run P w = .ok (p.isNone && q.isNone) w := by
  cases p <;> cases q <;> simp at h <;> simp [Op.equalIn, run_underlying ht]

theorem equal_ptr {t el : TypeId} (ht : P.underlying t = some (.pointer el)) {p q : Option Addr} (h : p.isNone = true ∨ q.isNone = true) (w : World) :
    (Op.equal t (.pointer p) (.pointer q)).run P w = .ok (p.isNone && q.isNone) w := equalIn_ptr 9999 ht h w

theorem equalIn_slice (n : Nat) {t el : TypeId} (ht : P.underlying t = some (.slice el)) {p q : Option Addr} {a b c d : Nat} (h : p.isNone = true ∨ q.isNone = true) (w : World) :
    (Op.equalIn (n + 1) t (.slice p a b) (.slice q c d)).run P w = .ok (p.isNone && q.isNone) w := by
  cases p <;> cases q <;> simp at h <;> simp [Op.equalIn, run_underlying ht]

theorem equal_slice {t el : TypeId} (ht : P.underlying t = some (.slice el)) {p q : Option Addr} {a b c d : Nat} (h : p.isNone = true ∨ q.isNone = true) (w : World) :
    (Op.equal t (.slice p a b) (.slice q c d)).run P w = .ok (p.isNone && q.isNone) w := equalIn_slice 9999 ht h w

theorem equalIn_map (n : Nat) {t k el : TypeId} (ht : P.underlying t = some (.map k el)) {p q : Option Nat} (h : p.isNone = true ∨ q.isNone = true) (w : World) :
    (Op.equalIn (n + 1) t (.map p) (.map q)).run P w = .ok (p.isNone && q.isNone) w := by
  cases p <;> cases q <;> simp at h <;> simp [Op.equalIn, run_underlying ht]

theorem equal_map {t k el : TypeId} (ht : P.underlying t = some (.map k el)) {p q : Option Nat} (h : p.isNone = true ∨ q.isNone = true) (w : World) :
    (Op.equal t (.map p) (.map q)).run P w = .ok (p.isNone && q.isNone) w := equalIn_map 9999 ht h w

theorem equalIn_bool (n : Nat) {t : TypeId} (ht : P.underlying t = some .bool) (a b : Bool) (w : World) : (Op.equalIn (n + 1) t (.bool a) (.bool b)).run P w = .ok (a == b) w := by
  simp [Op.equalIn, run_underlying ht]

theorem equal_bool {t : TypeId} (ht : P.underlying t = some .bool) (a b : Bool) (w : World) : (Op.equal t (.bool a) (.bool b)).run P w = .ok (a == b) w := equalIn_bool 9999 ht a b w

theorem equalIn_func0 (n : Nat) {t : TypeId} {x y : Array TypeId} {z : Bool} (ht : P.underlying t = some (.func x y z)) (w : World) : (Op.equalIn (n + 1) t .nilFunc .nilFunc).run P w = .ok true w := by
  simp [Op.equalIn, run_underlying ht]
theorem equalIn_func1 (n : Nat) {t : TypeId} {x y : Array TypeId} {z : Bool} (ht : P.underlying t = some (.func x y z)) (f : Fn) (a c : Array Value) (w : World) : (Op.equalIn (n + 1) t .nilFunc (.func f a c)).run P w = .ok false w := by
  simp [Op.equalIn, run_underlying ht]
theorem equalIn_func2 (n : Nat) {t : TypeId} {x y : Array TypeId} {z : Bool} (ht : P.underlying t = some (.func x y z)) (f : Fn) (a c : Array Value) (w : World) : (Op.equalIn (n + 1) t (.func f a c) .nilFunc).run P w = .ok false w := by
  simp [Op.equalIn, run_underlying ht]
theorem equal_func0 {t : TypeId} {x y : Array TypeId} {z : Bool} (ht : P.underlying t = some (.func x y z)) (w : World) : (Op.equal t .nilFunc .nilFunc).run P w = .ok true w := equalIn_func0 9999 ht w
theorem equal_func1 {t : TypeId} {x y : Array TypeId} {z : Bool} (ht : P.underlying t = some (.func x y z)) (f : Fn) (a c : Array Value) (w : World) : (Op.equal t .nilFunc (.func f a c)).run P w = .ok false w := equalIn_func1 9999 ht f a c w
theorem equal_func2 {t : TypeId} {x y : Array TypeId} {z : Bool} (ht : P.underlying t = some (.func x y z)) (f : Fn) (a c : Array Value) (w : World) : (Op.equal t (.func f a c) .nilFunc).run P w = .ok false w := equalIn_func2 9999 ht f a c w

theorem etOf_bool {t : TypeId} (h : etOf P t = .bool) : P.underlying t = some .bool := by
  unfold etOf at h; split at h <;> first | assumption | cases h
theorem etOf_ptr {t : TypeId} (h : etOf P t = .ptr) : ∃ e, P.underlying t = some (.pointer e) := by
  unfold etOf at h; split at h <;> first | exact ⟨_, by assumption⟩ | cases h
theorem etOf_slice {t : TypeId} (h : etOf P t = .slice) : ∃ e, P.underlying t = some (.slice e) := by
  unfold etOf at h; split at h <;> first | exact ⟨_, by assumption⟩ | cases h
theorem etOf_map {t : TypeId} (h : etOf P t = .map) : ∃ k e, P.underlying t = some (.map k e) := by
  unfold etOf at h; split at h <;> first | exact ⟨_, _, by assumption⟩ | cases h
theorem etOf_func {t : TypeId} (h : etOf P t = .func) : ∃ k e b, P.underlying t = some (.func k e b) := by
  unfold etOf at h; split at h <;> first | exact ⟨_, _, _, by assumption⟩ | cases h

theorem nilOf_et {et : ET} {a : AV} {b : Bool} (h : nilOf et a = some b) : et = .ptr ∨ et = .slice ∨ et = .map ∨ et = .func := by
  unfold nilOf at h
  split at h <;> simp at h <;> simp [h.1]

/-- '==' or '!=' of what may be nil: what the model does with the truth of the equality. -/
theorem nil_run {e : Env} {op : BinOp} {t : TypeId} {x y : Operand} {va vb : Value} {c : Bool} {r : AV}
    (hr : (match op with | .eql => some (AV.lit (.bool c)) | .neq => some (AV.lit (.bool (!c))) | _ => none) = some r)
    (g1 : ¬ (va = .nilIface ∧ vb = .nilIface)) (g2 : ∀ cs ds, ¬ (va = .agg cs ∧ vb = .agg ds))
    (hb : (binOp .eql t va vb).run P e.w = .ok (.bool c) e.w) (hn : (binOp .neq t va vb).run P e.w = .ok (.bool (!c)) e.w) :
    ∃ v, (do eqGuard op t x y va vb; binOp op t va vb : Sem Value).run P e.w = .ok v e.w ∧ Rep e r v := by
  have hg : ∀ z : BinOp, (eqGuard z t x y va vb).run P e.w = .ok () e.w := fun z => eqGuard_run g1 g2
  cases op <;> simp at hr <;> subst hr
  · exact ⟨_, by simp [hg, hb], .lit _⟩
  · exact ⟨_, by simp [hg, hn], .lit _⟩

theorem abin_run {e : Env} {op : BinOp} {t : TypeId} {x y : Operand} {a b r : AV} {va vb : Value} (h : abin op (etOf P t) a b = some r) (ha : Rep e a va) (hb : Rep e b vb) :
    ∃ v, (do eqGuard op t x y va vb; binOp op t va vb : Sem Value).run P e.w = .ok v e.w ∧ Rep e r v := by
  unfold abin at h
  split at h
  · cases ha; cases hb
    simp only [Option.map_eq_some_iff] at h
    obtain ⟨v, hv, rfl⟩ := h
    refine ⟨v, ?_, .lit v⟩
    rw [Sem.run_bind, eqGuard_run (by simp) (by simp)]
    exact ibin2_run hv t e.w
  · cases ha; cases hb
    simp only [Option.map_eq_some_iff] at h
    obtain ⟨v, hv, rfl⟩ := h
    refine ⟨v, ?_, .lit v⟩
    rw [Sem.run_bind, eqGuard_run (by simp) (by simp)]
    exact sbin_run hv t e.w
  · cases ha; cases hb
    split at h
    · rename_i het
      have hu := etOf_bool het
      refine nil_run h ?_ ?_ ?_ ?_ <;> simp [binOp, equal_bool hu]
    · cases h
  · split at h
    · rename_i na nb hna hnb
      split at h
      · rename_i hor
        simp only [Bool.or_eq_true] at hor
        rcases nilOf_et hna with het | het | het | het
        · rw [het] at hna hnb
          obtain ⟨el, hu⟩ := etOf_ptr het
          obtain ⟨p, rfl, rfl⟩ := nilOf_ptr hna ha
          obtain ⟨q, rfl, rfl⟩ := nilOf_ptr hnb hb
          refine nil_run h ?_ ?_ ?_ ?_ <;> simp [binOp, equal_ptr hu hor]
        · rw [het] at hna hnb
          obtain ⟨el, hu⟩ := etOf_slice het
          obtain ⟨p, _, _, rfl, rfl⟩ := nilOf_slice hna ha
          obtain ⟨q, _, _, rfl, rfl⟩ := nilOf_slice hnb hb
          refine nil_run h ?_ ?_ ?_ ?_ <;> simp [binOp, equal_slice hu hor]
        · rw [het] at hna hnb
          obtain ⟨k, el, hu⟩ := etOf_map het
          obtain ⟨p, rfl, rfl⟩ := nilOf_map hna ha
          obtain ⟨q, rfl, rfl⟩ := nilOf_map hnb hb
          refine nil_run h ?_ ?_ ?_ ?_ <;> simp [binOp, equal_map hu hor]
        · rw [het] at hna hnb
          obtain ⟨k, el, vb', hu⟩ := etOf_func het
          rcases nilOf_func hna ha with ⟨rfl, rfl⟩ | ⟨rfl, f, p, q, rfl⟩ <;> rcases nilOf_func hnb hb with ⟨rfl, rfl⟩ | ⟨rfl, f', p', q', rfl⟩
          · refine nil_run h ?_ ?_ ?_ ?_ <;> simp [binOp, equal_func0 hu]
          · refine nil_run h ?_ ?_ ?_ ?_ <;> simp [binOp, equal_func1 hu]
          · refine nil_run h ?_ ?_ ?_ ?_ <;> simp [binOp, equal_func2 hu]
          · simp at hor
      · cases h
    · cases h

end
end Go.Fw
