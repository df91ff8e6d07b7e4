/- Framework, part 11: the operations, compiled; what they come to over abstract values. -/
import Derived.Test.YtmgmgeijfkcglaaGB
namespace Go.Fw
set_option linter.unusedSimpArgs false
set_option linter.unusedVariables false
open Go
set_option linter.unusedSectionVars false
variable [Globals]

inductive AOp where
  | val (x : AX)
  | pick (c a b : AX)
  | nilck (x : AX)
  | bin (op : BinOp) (et : ET) (x y : AX)
  | un (op : UnOp) (x : AX)
  | conv (k : IntKind) (x : AX)
  | extract (x : AX) (i : Nat)
  | field (off sz : Nat) (ag : Bool) (x : AX)
  | fieldAddr (off : Nat) (x : AX)
  | indexAddr (sz : Nat) (x i : AX)
  | indexStr (x i : AX)
  | slice (sz : Nat) (x : AX) (lo hi mx : Option AX)
  | sliceStr (x : AX) (lo hi : Option AX)
  | len (k : Nat) (x : AX)
  | mkifc (t : TypeId) (x : AX)
  | mkfn (f : Fn) (first capt : List AX)
  | build (zs : List AV) (parts : List (Nat × Nat × AX))
  | bslice (mu : Bool) (sz n : Nat) (zs : List AV) (parts : List (Nat × Nat × AX))
  | load (ag : Bool) (sz : Nat) (x : AX)
  | store (sz : Nat) (x v : AX)
  | alloc (cs : List AV)
  | box (fz : Bool) (v : AX)
  | mkslice (sz bytes : Nat) (zs : List AV) (l c : AX)
  | append (fz : Bool) (sz bytes : Nat) (x y : AX)
  | sappend (sz bytes : Nat) (b x y : AX)
  | kappend (sz bytes : Nat) (x y : AX)
  | mkmap
  | lookup (kd : Nat) (zero : AV) (ok : Bool) (m k : AX)
  | mapset (kd : Nat) (m k v : AX)
  | delete (kd : Nat) (m k : AX)
  | lenm (x : AX)
  | copy (sz : Nat) (x y : AX)
  | mm2 (mx : Bool) (x y : AX)
  | mm3 (mx : Bool) (x y z : AX)
  | iload (ag : Bool) (sz : Nat) (x : AX)
  | call (f : AX) (args : List AX)
  | pcall (f : AX) (args : List AX)
  | kcall (f : AX) (args : List AX)
  | indexA (ag : Bool) (sz len : Nat) (x i : AX)
  | indexP (sz len : Nat) (x i : AX)
  | sliceA (sz n : Nat) (x : AX) (lo hi : Option AX)
  | eqS (ne : Bool) (l : List (Nat × Nat)) (x y : AX)
  | clearS (sz : Nat) (zs : List AV) (x : AX)
  | bad
  deriving Inhabited

/-- What is told of a function beside its code: the temporaries of literal slices that are written later, of appends whose answers are not, of calls that leave the abstract heap alone. -/
structure Ann where
  mu : List Nat := []
  fz : List Nat := []
  pc : List Nat := []
  kc : List Nat := []
  bz : List Nat := []
  il : List Nat := []
  sp : List (Nat × Nat) := []
  ka : List Nat := []

def inAnn (l : List Nat) : Option Nat → Bool
  | some d => l.contains d
  | none => false

def szOf (P : Program) (t : TypeId) : Option Nat := (P.info? t).map (·.size)

def zeroOf (P : Program) (t : TypeId) : Option (List AV) := (P.info? t).bind fun i => i.zero.bind fun z => if z.cells.toList.all Value.oneCell' = true then some (z.cells.toList.map cAV1) else none

def strSlice (x : AV) (lo hi : Option AV) : Option AV :=
  match x with
  | .lit (.string s) =>
    match bnd 0 lo, bnd s.size hi with
    | some l, some h => if 0 ≤ l ∧ l ≤ h ∧ h ≤ (s.size : Int) then some (.lit (.string (s.extract l.toNat h.toNat))) else none
    | _, _ => none
  | _ => none

/-- 'len': of a text, a slice, a map. -/
def alen (k : Nat) : AV → Option Int
  | .lit (.string s) => if k = 0 then some (s.size : Int) else none
  | .sl _ _ es => if k = 1 then some (es.length : Int) else none
  | .ms _ _ len _ => if k = 1 then some (len : Int) else none
  | .lit (.map none) => if k = 2 then some 0 else none
  | _ => none

def anil : AV → Option AV
  | .ip cs off => some (.ip cs off)
  | .mp id off => some (.mp id off)
  | .lit (.pointer (some a)) => some (.lit (.pointer (some a)))
  | _ => none

def aun (op : UnOp) : AV → Option AV
  | .lit (.int k n) => match op with
    | .neg => some (.lit (.int k (k.wrap (0 - n))))
    | _ => none
  | .lit (.bool b) => match op with
    | .not => some (.lit (.bool (!b)))
    | _ => none
  | _ => none

def aidxs (x i : AV) : Option AV :=
  match x, i with
  | .lit (.string s), .lit (.int _ i) => if 0 ≤ i then (s[i.toNat]?).map fun b => .lit (.int .u8 b.toNat) else none
  | _, _ => none

/-- Key types. -/
def kcode : TypeDesc → Option Nat
  | .int _ => some 0
  | .string => some 1
  | .bool => some 2
  | _ => none

def akind (n : Nat) : AV → Bool
  | .lit (.int _ _) => n == 0
  | .lit (.string _) => n == 1
  | .lit (.bool _) => n == 2
  | _ => false

theorem kind_of {d : TypeDesc} {n : Nat} (h : kcode d = some n) {k : AV} (hk : akind n k = true) : ∀ v, k = .lit v → kindOk d v = true := fun v hv => by
  subst hv
  cases d <;> simp [kcode] at h <;> subst h <;> cases v <;> simp [akind] at hk <;> rfl

/-- '==' of structs of numbers, texts and truths: where each field lies, and its kind. -/
def aeqs : List (Nat × Nat) → List AV → List AV → Option Bool
  | [], _, _ => some true
  | (off, k) :: r, cs, ds => match cs[off]?, ds[off]? with
    | some (.lit a), some (.lit b) => if akind k (.lit a) = true then (match keq a b with
      | some true => aeqs r cs ds
      | some false => some false
      | none => none) else none
    | _, _ => none

def eqsV (l : List (Nat × Nat)) : AV → AV → Option Bool
  | .agg cs, .agg ds => aeqs l cs ds
  | _, _ => none

def eqField (P : Program) (f : Field) : Option (Nat × Nat) := if f.name ≠ "_" then ((P.underlying f.type).bind kcode).map fun k => (f.offset, k) else none

def eqSpec (P : Program) (t : TypeId) : Option (List (Nat × Nat)) := match P.underlying t with
  | some (.struct fs) => if P.stoodInHeld t = false ∧ P.eqGuardType P.depth t = false then fs.toList.mapM (eqField P) else none
  | _ => none

def eqNe : BinOp → Option Bool
  | .eql => some false
  | .neq => some true
  | _ => none

/-- An append that leaves a box alone. -/
def spareOk (N : Nat) : AV → AV → Bool
  | .mp id _, .ms id' _ _ _ => decide (id ≠ id') && decide (id < N)
  | .mp id _, _ => decide (id < N)
  | .ip _ _, _ => true
  | _, _ => false

/-- An append that leaves all as it was. -/
def keepOk (H : AHeap) (N : Nat) : AV → Bool
  | .sl _ _ _ => (H N).isNone
  | _ => false

def spOf (l : List (Nat × Nat)) : Option Nat → Option Nat
  | some d => (l.find? fun x => x.1 == d).map (·.2)
  | none => none

def alenm (H : AHeap) : AV → Option Int
  | .lit (.map none) => some 0
  | .mm id => match H id with
    | some (.map es) => some (es.length : Int)
    | _ => none
  | _ => none

/-- What an operation that is no call comes to. -/
def aop (o : AOp) (s : St) : Option (AV × AHeap × Nat) :=
  let p (v : Option AV) : Option (AV × AHeap × Nat) := v.map fun v => (v, s.H, s.N)
  match o with
  | .val x => some (s.ev x, s.H, s.N)
  | .pick c a b => match s.ev c with
    | .lit (.bool t) => some (bif t then s.ev a else s.ev b, s.H, s.N)
    | _ => none
  | .nilck x => p (anil (s.ev x))
  | .bin op et x y => p (abin op et (s.ev x) (s.ev y))
  | .un op x => p (aun op (s.ev x))
  | .conv k x => match s.ev x with
    | .lit (.int _ n) => some (.lit (.int k (k.wrap n)), s.H, s.N)
    | _ => none
  | .extract x i => match s.ev x with
    | .tup cs => p cs[i]?
    | _ => none
  | .field off sz ag x => match s.ev x with
    | .agg cs => p (apart ag sz off cs)
    | _ => none
  | .fieldAddr off x => p (afield off (s.ev x))
  | .indexAddr sz x i => p (aindex sz (s.ev x) (s.ev i))
  | .indexStr x i => p (aidxs (s.ev x) (s.ev i))
  | .slice sz x lo hi mx => p (aslice sz (s.ev x) (lo.map s.ev) (hi.map s.ev) (mx.map s.ev))
  | .sliceStr x lo hi => p (strSlice (s.ev x) (lo.map s.ev) (hi.map s.ev))
  | .len k x => p ((alen k (s.ev x)).map fun n => .lit (.int .i64 n))
  | .mkifc t x => some (.ifc t (s.ev x), s.H, s.N)
  | .mkfn f first capt => some (.fn f (first.map s.ev) (capt.map s.ev), s.H, s.N)
  | .build zs parts => p ((afill (parts.map fun x => (x.1, x.2.1, s.ev x.2.2)) zs).map .agg)
  | .bslice mu sz n zs parts =>
    match afill (parts.map fun x => (x.1, x.2.1, s.ev x.2.2)) zs with
    | some cs => if mu = true then some (.ms s.N 0 n sz, s.H.set s.N (.blk cs), s.N + 1) else some (.sl .exact sz (chunks sz n cs), s.H, s.N)
    | none => none
  | .load ag sz x => p (aload s.H ag sz (s.ev x))
  | .store sz x v => (astore s.H sz (s.ev x) (s.ev v)).map fun H => (.lit undef, H, s.N)
  | .alloc cs => some (.mp s.N 0, s.H.set s.N (.blk cs), s.N + 1)
  | .box fz v => (s.ev v).cells.map fun cs => if fz = true then (.ip cs 0, s.H, s.N) else (.mp s.N 0, s.H.set s.N (.blk cs), s.N + 1)
  | .mkslice sz bytes zs l c => (amake sz bytes zs (s.ev l) (s.ev c)).map fun x => (.ms s.N 0 x.1 sz, s.H.set s.N (.blk ((List.replicate x.1 zs).flatten)), s.N + 1)
  | .append fz sz bytes x y => aappend fz sz bytes s.H s.N (s.ev x) (s.ev y)
  | .sappend sz bytes b x y => if spareOk s.N (s.ev b) (s.ev x) = true then aappend false sz bytes s.H s.N (s.ev x) (s.ev y) else none
  | .kappend sz bytes x y => if keepOk s.H s.N (s.ev x) = true then aappend false sz bytes s.H s.N (s.ev x) (s.ev y) else none
  | .mkmap => some (.mm s.N, s.H.set s.N (.map []), s.N + 1)
  | .lookup kd zero ok m k => if akind kd (s.ev k) = true then p (alookup zero ok s.H (s.ev m) (s.ev k)) else none
  | .mapset kd m k v => if akind kd (s.ev k) = true then (amapset s.H (s.ev m) (s.ev k) (s.ev v)).map fun H => (.lit undef, H, s.N) else none
  | .delete kd m k => if akind kd (s.ev k) = true then (amapdel s.H (s.ev m) (s.ev k)).map fun H => (.tup [], H, s.N) else none
  | .copy sz x y => (acopy s.H sz (s.ev x) (s.ev y)).map fun r => (.lit (.int .i64 r.1), r.2, s.N)
  | .mm2 mx x y => p (amm mx (s.ev x) (s.ev y))
  | .mm3 mx x y z => p ((amm mx (s.ev x) (s.ev y)).bind fun r => amm mx r (s.ev z))
  | .iload ag sz x => p (aload (fun _ => none) ag sz (s.ev x))
  | .lenm x => p ((alenm s.H (s.ev x)).map fun n => .lit (.int .i64 n))
  | .indexA ag sz len x i => p (aindexA ag sz len (s.ev x) (s.ev i))
  | .indexP sz len x i => p (aindexP sz len (s.ev x) (s.ev i))
  | .sliceA sz n x lo hi => p (asliceA s.H sz n (s.ev x) (lo.map s.ev) (hi.map s.ev))
  | .eqS ne l x y => p ((eqsV l (s.ev x) (s.ev y)).map fun b => .lit (.bool (xor ne b)))
  | .clearS sz zs x => (aclear s.H sz zs (s.ev x)).map fun H => (.tup [], H, s.N)
  | _ => none

/-- The kind of a map's keys. -/
def kdOf (P : Program) (t : TypeId) : Option Nat := match P.underlying t with
  | some (.map kt _) => (P.underlying kt).bind kcode
  | _ => none

/-- What stands for a key that is not there. -/
def mzero (P : Program) (t : TypeId) : Option AV := match P.underlying t with
  | some (.map _ el) => ((P.info? el).bind (·.zero)).map cAV
  | _ => none

/-- Operations, compiled. -/
def cop (P : Program) (An : Ann) (o : Oper) : Option AOp :=
  match o.op with
  | .move x => some (.val (cX x))
  | .assign x => some (.val (cX x))
  | .pick c a b => some (.pick (cX c) (cX a) (cX b))
  | .nilCheck x => some (.nilck (cX x))
  | .binOp op t x y _ => match eqNe op, eqSpec P t with
    | some ne, some l => some (.eqS ne l (cX x) (cX y))
    | _, _ => some (.bin op (etOf P t) (cX x) (cX y))
  | .unOp op _ x => some (.un op (cX x))
  | .convert s d x => match P.underlying s, P.underlying d with
    | some (.int _), some (.int k) => some (.conv k (cX x))
    | _, _ => none
  | .extract x i => some (.extract (cX x) i)
  | .field t x f => match P.underlying t with
    | some (.struct fs) => match fs[f]? with
      | some fl => match szOf P fl.type, P.underlying fl.type with
        | some sz, some _ => some (.field fl.offset sz (isAggB P fl.type) (cX x))
        | _, _ => none
      | none => none
    | _ => none
  | .fieldAddr t x f => match P.underlying t with
    | some (.struct fs) => match fs[f]? with
      | some fl => match szOf P fl.type with
        | some (_ + 1) => some (.fieldAddr fl.offset (cX x))
        | _ => none
      | none => none
    | _ => none
  | .indexAddr t x i => match P.underlying t with
    | some (.slice el) => (szOf P el).map fun sz => .indexAddr sz (cX x) (cX i)
    | some (.array len el) => (szOf P el).map fun sz => .indexP sz len (cX x) (cX i)
    | _ => none
  | .index t x i => match P.underlying t with
    | some .string => some (.indexStr (cX x) (cX i))
    | some (.array len el) => match szOf P el, P.underlying el with
      | some sz, some _ => some (.indexA (isAggB P el) sz len (cX x) (cX i))
      | _, _ => none
    | _ => none
  | .slice t x lo hi mx => match P.underlying t, mx with
    | some (.slice el), _ => (szOf P el).map fun sz => .slice sz (cX x) (lo.map cX) (hi.map cX) (mx.map cX)
    | some .string, none => some (.sliceStr (cX x) (lo.map cX) (hi.map cX))
    | some (.array n el), none => (szOf P el).map fun sz => .sliceA sz n (cX x) (lo.map cX) (hi.map cX)
    | _, _ => none
  | .makeInterface t x => if P.concrete t = true then some (.mkifc t (cX x)) else none
  | .makeFunc f first capt => some (.mkfn f (first.toList.map cX) (capt.toList.map cX))
  | .build t parts => match P.underlying t with
    | some (.struct fs) => match P.info? t with
      | some ti => match ti.zero, fs.toList.mapM (fun f => (P.info? f.type).map fun i => (f.offset, i.size)) with
        | some z, some places => if z.cells.toList.all Value.oneCell' = true then (parts.toList.mapM fun x => (places[x.1]?).map fun y => (y.1, y.2, cX x.2)).map fun ps => .build (z.cells.toList.map cAV1) ps else none
        | _, _ => none
      | none => none
    | _ => none
  | .buildSlice t len parts => match P.underlying t with
    | some (.slice el) => match P.info? el with
      | some ti => match ti.zero with
        | some z =>
          let zs := if len * ti.size = 0 then [] else zrow z (len * ti.size)
          if len * ti.size ≤ 2 ^ 24 ∧ zs.all Value.oneCell' = true then
            some (.bslice (inAnn An.mu o.dst) ti.size len (zs.map cAV1) (parts.toList.map fun x => (x.1 * ti.size, ti.size, cX x.2))) else none
        | none => none
      | none => none
    | _ => none
  | .load t a => match szOf P t, P.underlying t with
    | some sz, some _ => some (if inAnn An.il o.dst = true then .iload (isAggB P t) sz (cX a) else .load (isAggB P t) sz (cX a))
    | _, _ => none
  | .store t a v => (szOf P t).map fun sz => .store sz (cX a) (cX v)
  | .alloc t => match (P.info? t).bind (·.zero) with
    | some z => ((cAV z).cells).map .alloc
    | none => none
  | .box _ v => some (.box (inAnn An.bz o.dst) (cX v))
  | .makeSlice t l c => match P.underlying t with
    | some (.slice el) => match P.info? el with
      | some ti => match ti.zero with
        | some z => if z.cells.toList.all Value.oneCell' = true then some (.mkslice ti.size ti.bytes (z.cells.toList.map cAV1) (cX l) (cX c)) else none
        | none => none
      | none => none
    | _ => none
  | .call { callee := .value f, args, .. } => some (if inAnn An.pc o.dst = true then .pcall (cX f) (args.toList.map cX) else if inAnn An.kc o.dst = true then .kcall (cX f) (args.toList.map cX) else .call (cX f) (args.toList.map cX))
  | .call { callee := .builtin .len, args, argTypes } => match args.toList, argTypes.toList with
    | [x], [t] => match P.underlying t with
      | some .string => some (.len 0 (cX x))
      | some (.slice _) => some (.len 1 (cX x))
      | some (.map _ _) => some (.lenm (cX x))
      | _ => none
    | _, _ => none
  | .call { callee := .builtin .append, args, argTypes } => match args.toList, argTypes.toList with
    | [x, y], [t, t'] => if t = t' then (match P.underlying t with
      | some (.slice el) => match P.info? el with
        | some ti => match ti.zero with
          | some z => if z.cells.size = ti.size then some (match spOf An.sp o.dst with | some b => .sappend ti.size ti.bytes (.tmp b) (cX x) (cX y) | none => if inAnn An.ka o.dst = true then .kappend ti.size ti.bytes (cX x) (cX y) else .append (inAnn An.fz o.dst) ti.size ti.bytes (cX x) (cX y)) else none
          | none => none
        | none => none
      | _ => none) else none
    | _, _ => none
  | .makeMap t none => some .mkmap
  | .lookup t m k ok => match kdOf P t, mzero P t with
    | some kd, some z => some (.lookup kd z ok (cX m) (cX k))
    | _, _ => none
  | .mapUpdate t m k v => (kdOf P t).map fun kd => .mapset kd (cX m) (cX k) (cX v)
  | .insert t m k v => (kdOf P t).map fun kd => .mapset kd (cX m) (cX k) (cX v)
  | .call { callee := .builtin .delete, args, argTypes } => match args.toList, argTypes[0]? with
    | [m, k], some t => (kdOf P t).map fun kd => .delete kd (cX m) (cX k)
    | _, _ => none
  | .panic _ => some .bad
  | .call { callee := .builtin .copy, args, argTypes } => match args.toList, argTypes.toList with
    | [x, y], [t, _] => match P.underlying t with
      | some (.slice el) => (szOf P el).map fun sz => .copy sz (cX x) (cX y)
      | _ => none
    | _, _ => none
  | .call { callee := .builtin .max, args, .. } => match args.toList with
    | [x, y] => some (.mm2 true (cX x) (cX y))
    | [x, y, z] => some (.mm3 true (cX x) (cX y) (cX z))
    | _ => none
  | .call { callee := .builtin .min, args, .. } => match args.toList with
    | [x, y] => some (.mm2 false (cX x) (cX y))
    | [x, y, z] => some (.mm3 false (cX x) (cX y) (cX z))
    | _ => none
  | .call { callee := .builtin .clear, args, argTypes } => match args.toList, argTypes.toList with
    | [x], [t] => match P.underlying t with
      | some (.slice el) => match P.info? el with
        | some ti => match ti.zero with
          | some z => if z.cells.toList.all Value.oneCell' = true then some (.clearS ti.size (z.cells.toList.map cAV1) (cX x)) else none
          | none => none
        | none => none
      | _ => none
    | _, _ => none
  | _ => none

end Go.Fw
