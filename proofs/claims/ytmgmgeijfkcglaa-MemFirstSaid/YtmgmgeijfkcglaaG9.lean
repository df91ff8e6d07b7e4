/- Framework, part 18: one fact per function. -/
import Derived.Test.YtmgmgeijfkcglaaG8
import Derived.KernelRfl
namespace Go.Fw
set_option linter.unusedSimpArgs false
set_option linter.unusedVariables false
open Go
set_option linter.unusedSectionVars false
variable [Globals]

/-- A function's code, where its results lie, how many temporaries it has. -/
def codeOf (P : Program) (An : Ann) (f : FuncId) : Option (ACode × List RV × Nat) :=
  match P.funcs[f]? with
  | some fn => match goodFn P f, fn.body.bind (ccode P An fn.ntmps false), resTmps P fn.results.toList with
    | true, some ac, some l => if l.length ≤ 3 then some (ac, l, fn.ntmps) else none
    | _, _, _ => none
  | none => none

section
variable {P : Program}

theorem acall_awp (hm : P.follows .mixedOrders = true) {f : FuncId} {An : Ann} {ac : ACode} {l : List RV} {nt : Nat} (hc : codeOf P An f = some (ac, l, nt))
    {args : List AV} (hle : args.length ≤ nt) {H : AHeap} {N : Nat} {Q : AV → AHeap → Nat → Prop}
    (h : awp P ac (fun x s => match x with | .exit _ => False | _ => ares l s (fun v => Q v s.H s.N)) (St0 args H N)) : ACall P f args H N Q := by
  unfold codeOf at hc
  split at hc
  · rename_i fn hf
    split at hc
    · rename_i ac' l' hg hb hl
      split at hc
      · rename_i hl3
        cases hc
        obtain ⟨c, hc1, hc2⟩ := Option.bind_eq_some_iff.1 hb
        exact acall_of hm hf hg hc1 rfl hc2 hl hl3 hle h
      · cases hc
    · cases hc
  · cases hc

/-- Temporaries, one of them written. -/
def upA (A : Nat → AV) (d : Nat) (v : AV) : Nat → AV := fun t => if t = d then v else A t
def argA (args : List AV) : Nat → AV := fun t => args.getD t (.lit undef)

theorem upA_at (A : Nat → AV) (d : Nat) (v : AV) (t : Nat) : upA A d v t = if t = d then v else A t := rfl
theorem argA_at (args : List AV) (t : Nat) : argA args t = args.getD t (.lit undef) := rfl

end

/-- What is still to be done behind a piece of code. -/
inductive Fr where
  | seq (b : ACode)
  | blk (id : Nat)

abbrev Post := AExit → St → Prop

def contQ (P : Program) : List Fr → Post → Post
  | [], Q => Q
  | .seq b :: fs, Q => fun x s => match x with
    | .normal => awp P b (contQ P fs Q) s
    | .exit i => contQ P fs Q (.exit i) s
    | .ret => contQ P fs Q .ret s
  | .blk id :: fs, Q => fun x s => match x with
    | .normal => contQ P fs Q .normal s
    | .exit i => if i = id then contQ P fs Q .normal s else contQ P fs Q (.exit i) s
    | .ret => contQ P fs Q .ret s

def run (P : Program) (c : ACode) (fs : List Fr) (Q : Post) (s : St) : Prop := awp P c (contQ P fs Q) s
def runOps (P : Program) (os : List AOper) (fs : List Fr) (Q : Post) (s : St) : Prop := awpOps P os (contQ P fs Q .normal) s
def onward (P : Program) (fs : List Fr) (Q : Post) (x : AExit) (s : St) : Prop := contQ P fs Q x s

/-- Behind a call. -/
def afterK (P : Program) (d : Option Nat) (os : List AOper) (fs : List Fr) (Q : Post) (s : St) : AV → AHeap → Nat → Prop := fun v H N => runOps P os fs Q (s.upd d v H N)
def afterKK (P : Program) (d : Option Nat) (os : List AOper) (fs : List Fr) (Q : Post) (s : St) : AV → AHeap → Nat → Prop := fun v H N => Keeps s.H H ∧ runOps P os fs Q (s.upd d v H N)

def thenK (P : Program) (r : Option (AV × AHeap × Nat)) (d : Option Nat) (os : List AOper) (fs : List Fr) (Q : Post) (s : St) : Prop := match r with
  | some (v, H, N) => runOps P os fs Q (s.upd d v H N)
  | none => False

def condK (P : Program) (c : AV) (a b : ACode) (fs : List Fr) (Q : Post) (s : St) : Prop := match c with
  | .lit (.bool t) => (t = true → run P a fs Q s) ∧ (t = false → run P b fs Q s)
  | _ => False

def guardK (P : Program) (c : AV) (w : Bool) (d : Option Nat) (op : AOp) (os : List AOper) (fs : List Fr) (Q : Post) (s : St) : Prop := match c with
  | .lit (.bool b) => (b = w → runOps P (⟨d, op, none⟩ :: os) fs Q s) ∧ (b ≠ w → runOps P os fs Q (s.put d (.lit undef)))
  | .lit (.tuple _) => runOps P os fs Q (s.put d (.lit undef))
  | _ => False

/-- A call: the function, what it is called with, and how it goes on: 0 as it is, 1 keeping all, 2 pure. -/
def callK (P : Program) (kd : Nat) (c : AV) (args : List AV) (d : Option Nat) (os : List AOper) (fs : List Fr) (Q : Post) (s : St) : Prop := match c with
  | .fn (.func f) first capt => match kd with
    | 0 => ACall P f (first ++ args ++ capt) s.H s.N (afterK P d os fs Q s)
    | 1 => ACall P f (first ++ args ++ capt) s.H s.N (afterKK P d os fs Q s)
    | _ => ∃ r, PCall P f (first ++ args ++ capt) r ∧ runOps P os fs Q (s.put d r)
  | .yl id => match kd with
    | 0 => YCall P id args s.H s.N (afterK P d os fs Q s)
    | _ => False
  | _ => False

/-- A loop over a function: what its rounds come to. -/
def rndB (o ob : AObj) (od : AExit → AObj) (id : Nat) (Q1 : AV → AHeap → Nat → Prop) : Post := fun x s => s.H id = some ob ∧ (match x with
  | .normal => Q1 (.lit (.bool true)) (s.H.set id o) s.N
  | x => Q1 (.lit (.bool false)) (s.H.set id (od x)) s.N)
def rndA (P : Program) (o ob : AObj) (od : AExit → AObj) (id : Nat) (body : ACode) (Q1 : AV → AHeap → Nat → Prop) : Post := fun x s => x = .normal ∧ s.H id = some o ∧ run P body [] (rndB o ob od id Q1) ⟨s.A, s.H.set id ob, s.N⟩

/-- A loop over a function. -/
def rangeK (P : Program) (f : AV) (ps : List Nat) (asg body : ACode) (fs : List Fr) (Q : Post) (s : St) : Prop := match f with
  | .fn (.func f) [] capt => ∀ (o ob : AObj) (od : AExit → AObj),
      (∀ (args : List AV) (H : AHeap) (N : Nat) (Q1 : AV → AHeap → Nat → Prop), H s.N = some o → args.length = ps.length →
        run P asg [] (rndA P o ob od s.N body Q1) ⟨putL s.A ps args, H, N⟩ → YCall P s.N args H N Q1) →
      ACall P f (.yl s.N :: capt) (s.H.set s.N o) (s.N + 1) (fun _ H' N' => (H' s.N = some o ∧ onward P fs Q .normal ⟨s.A, H'.del s.N, N'⟩) ∨ ∃ x, x ≠ .normal ∧ H' s.N = some (od x) ∧ onward P fs Q x ⟨s.A, H'.del s.N, N'⟩)
  | _ => False

section
variable {P : Program} {fs : List Fr} {Q : Post} {s : St}

theorem run_skip : run P .skip fs Q s = onward P fs Q .normal s := rfl
theorem run_ops {l : List AOper} : run P (.ops l) fs Q s = runOps P l fs Q s := rfl
theorem run_seq {a b : ACode} : run P (.seq a b) fs Q s = run P a (.seq b :: fs) Q s := rfl
theorem run_block {id : Nat} {a : ACode} : run P (.block id a) fs Q s = run P a (.blk id :: fs) Q s := rfl
theorem run_exit {id : Nat} : run P (.exit id) fs Q s = onward P fs Q (.exit id) s := rfl
theorem run_ret : run P .ret fs Q s = onward P fs Q .ret s := rfl
theorem run_cond {c : AX} {a b : ACode} : run P (.cond c a b) fs Q s = condK P (s.ev c) a b fs Q s := rfl
theorem onward_nil {x : AExit} : onward P [] Q x s = Q x s := rfl
theorem onward_seq_n {b : ACode} : onward P (.seq b :: fs) Q .normal s = run P b fs Q s := rfl
theorem onward_seq_e {b : ACode} {i : Nat} : onward P (.seq b :: fs) Q (.exit i) s = onward P fs Q (.exit i) s := rfl
theorem onward_seq_r {b : ACode} : onward P (.seq b :: fs) Q .ret s = onward P fs Q .ret s := rfl
theorem onward_blk_n {id : Nat} : onward P (.blk id :: fs) Q .normal s = onward P fs Q .normal s := rfl
theorem onward_blk_e {id i : Nat} : onward P (.blk id :: fs) Q (.exit i) s = if i = id then onward P fs Q .normal s else onward P fs Q (.exit i) s := rfl
theorem onward_blk_r {id : Nat} : onward P (.blk id :: fs) Q .ret s = onward P fs Q .ret s := rfl
theorem runOps_nil : runOps P [] fs Q s = onward P fs Q .normal s := rfl
theorem afterK_eq {d : Option Nat} {os : List AOper} {v : AV} {H : AHeap} {N : Nat} : afterK P d os fs Q s v H N = runOps P os fs Q (s.upd d v H N) := rfl
theorem afterKK_eq {d : Option Nat} {os : List AOper} {v : AV} {H : AHeap} {N : Nat} : afterKK P d os fs Q s v H N = (Keeps s.H H ∧ runOps P os fs Q (s.upd d v H N)) := rfl
theorem thenK_some {v : AV} {H : AHeap} {N : Nat} {d : Option Nat} {os : List AOper} : thenK P (some (v, H, N)) d os fs Q s = runOps P os fs Q (s.upd d v H N) := rfl
theorem condK_true {a b : ACode} : condK P (.lit (.bool true)) a b fs Q s ↔ run P a fs Q s := by simp [condK]
theorem condK_false {a b : ACode} : condK P (.lit (.bool false)) a b fs Q s ↔ run P b fs Q s := by simp [condK]
theorem condK_of {t : Bool} {a b : ACode} (h1 : t = true → run P a fs Q s) (h2 : t = false → run P b fs Q s) : condK P (.lit (.bool t)) a b fs Q s := ⟨h1, h2⟩
theorem guardK_true {d : Option Nat} {op : AOp} {os : List AOper} : guardK P (.lit (.bool true)) true d op os fs Q s ↔ runOps P (⟨d, op, none⟩ :: os) fs Q s := by simp [guardK]
theorem guardK_tf {d : Option Nat} {op : AOp} {os : List AOper} : guardK P (.lit (.bool true)) false d op os fs Q s ↔ runOps P os fs Q (s.put d (.lit undef)) := by simp [guardK]
theorem guardK_ft {d : Option Nat} {op : AOp} {os : List AOper} : guardK P (.lit (.bool false)) true d op os fs Q s ↔ runOps P os fs Q (s.put d (.lit undef)) := by simp [guardK]
theorem guardK_false {d : Option Nat} {op : AOp} {os : List AOper} : guardK P (.lit (.bool false)) false d op os fs Q s ↔ runOps P (⟨d, op, none⟩ :: os) fs Q s := by simp [guardK]
theorem guardK_undef {w : Bool} {d : Option Nat} {op : AOp} {os : List AOper} : guardK P (.lit undef) w d op os fs Q s = runOps P os fs Q (s.put d (.lit undef)) := rfl
theorem guardK_tuple {vs : Array Value} {w : Bool} {d : Option Nat} {op : AOp} {os : List AOper} : guardK P (.lit (.tuple vs)) w d op os fs Q s = runOps P os fs Q (s.put d (.lit undef)) := rfl
theorem guardK_of {b w : Bool} {d : Option Nat} {op : AOp} {os : List AOper} (h1 : b = w → runOps P (⟨d, op, none⟩ :: os) fs Q s) (h2 : b ≠ w → runOps P os fs Q (s.put d (.lit undef))) : guardK P (.lit (.bool b)) w d op os fs Q s := ⟨h1, h2⟩
theorem callK_0 {f : FuncId} {first capt args : List AV} {d : Option Nat} {os : List AOper} : callK P 0 (.fn (.func f) first capt) args d os fs Q s = ACall P f (first ++ args ++ capt) s.H s.N (afterK P d os fs Q s) := rfl
theorem callK_1 {f : FuncId} {first capt args : List AV} {d : Option Nat} {os : List AOper} : callK P 1 (.fn (.func f) first capt) args d os fs Q s = ACall P f (first ++ args ++ capt) s.H s.N (afterKK P d os fs Q s) := rfl

/-- A pure call. -/
theorem callK_2 {f : FuncId} {first capt args : List AV} {d : Option Nat} {os : List AOper} {r : AV} (h : PCall P f (first ++ args ++ capt) r) (hk : runOps P os fs Q (s.put d r)) : callK P 2 (.fn (.func f) first capt) args d os fs Q s := ⟨r, h, hk⟩

theorem runOps_guarded {d : Option Nat} {op : AOp} {t : Nat} {w : Bool} {os : List AOper} : runOps P (⟨d, op, some (t, w)⟩ :: os) fs Q s ↔ guardK P (s.A t) w d op os fs Q s := by
  have hdo : ∀ K, awpDo P ⟨d, op, some (t, w)⟩ K s = awpDo P ⟨d, op, none⟩ K s := fun _ => rfl
  unfold runOps awpOps awpOp gate
  simp only [hdo]
  cases hA : s.A t with
  | lit v => cases v <;> simp [guardK, runOps, awpOps, awpOp]
  | _ => simp [guardK]

theorem run_range {f : AX} {ps : List Nat} {asg body : ACode} : run P (.range f ps asg body) fs Q s = rangeK P (s.ev f) ps asg body fs Q s := rfl
theorem runOps_call {d : Option Nat} {f : AX} {args : List AX} {os : List AOper} : runOps P (⟨d, .call f args, none⟩ :: os) fs Q s = callK P 0 (s.ev f) (args.map s.ev) d os fs Q s := rfl
theorem callK_y {id : Nat} {args : List AV} {d : Option Nat} {os : List AOper} : callK P 0 (.yl id) args d os fs Q s = YCall P id args s.H s.N (afterK P d os fs Q s) := rfl
theorem rndB_n {o ob : AObj} {od : AExit → AObj} {id : Nat} {Q1 : AV → AHeap → Nat → Prop} : rndB o ob od id Q1 .normal s = (s.H id = some ob ∧ Q1 (.lit (.bool true)) (s.H.set id o) s.N) := rfl
theorem rndB_e {o ob : AObj} {od : AExit → AObj} {id i : Nat} {Q1 : AV → AHeap → Nat → Prop} : rndB o ob od id Q1 (.exit i) s = (s.H id = some ob ∧ Q1 (.lit (.bool false)) (s.H.set id (od (.exit i))) s.N) := rfl
theorem rndB_r {o ob : AObj} {od : AExit → AObj} {id : Nat} {Q1 : AV → AHeap → Nat → Prop} : rndB o ob od id Q1 .ret s = (s.H id = some ob ∧ Q1 (.lit (.bool false)) (s.H.set id (od .ret)) s.N) := rfl
theorem rndA_n {o ob : AObj} {od : AExit → AObj} {id : Nat} {body : ACode} {Q1 : AV → AHeap → Nat → Prop} : rndA P o ob od id body Q1 .normal s = (s.H id = some o ∧ run P body [] (rndB o ob od id Q1) ⟨s.A, s.H.set id ob, s.N⟩) := by simp [rndA]
theorem putL_cons {A : Nat → AV} {p : Nat} {ps : List Nat} {a : AV} {as : List AV} : putL A (p :: ps) (a :: as) = putL (upA A p a) ps as := rfl
theorem putL_nil {A : Nat → AV} {as : List AV} : putL A [] as = A := by cases as <;> rfl
theorem ev_glob {g : Nat} : s.ev (.glob g) = gptr g := rfl
theorem runOps_kcall {d : Option Nat} {f : AX} {args : List AX} {os : List AOper} : runOps P (⟨d, .kcall f args, none⟩ :: os) fs Q s = callK P 1 (s.ev f) (args.map s.ev) d os fs Q s := rfl
theorem runOps_pcall {d : Option Nat} {f : AX} {args : List AX} {os : List AOper} : runOps P (⟨d, .pcall f args, none⟩ :: os) fs Q s = callK P 2 (s.ev f) (args.map s.ev) d os fs Q s := rfl
theorem runOps_val (x : AX) {d : Option Nat} {os : List AOper} : runOps P (⟨d, .val x, none⟩ :: os) fs Q s = thenK P (aop (.val x) s) d os fs Q s := rfl
theorem runOps_pick (c a b : AX) {d : Option Nat} {os : List AOper} : runOps P (⟨d, .pick c a b, none⟩ :: os) fs Q s = thenK P (aop (.pick c a b) s) d os fs Q s := rfl
theorem runOps_nilck (x : AX) {d : Option Nat} {os : List AOper} : runOps P (⟨d, .nilck x, none⟩ :: os) fs Q s = thenK P (aop (.nilck x) s) d os fs Q s := rfl
theorem runOps_bin (o : BinOp) (et : ET) (x y : AX) {d : Option Nat} {os : List AOper} : runOps P (⟨d, .bin o et x y, none⟩ :: os) fs Q s = thenK P (aop (.bin o et x y) s) d os fs Q s := rfl
theorem runOps_un (o : UnOp) (x : AX) {d : Option Nat} {os : List AOper} : runOps P (⟨d, .un o x, none⟩ :: os) fs Q s = thenK P (aop (.un o x) s) d os fs Q s := rfl
theorem runOps_conv (k : IntKind) (x : AX) {d : Option Nat} {os : List AOper} : runOps P (⟨d, .conv k x, none⟩ :: os) fs Q s = thenK P (aop (.conv k x) s) d os fs Q s := rfl
theorem runOps_extract (x : AX) (i : Nat) {d : Option Nat} {os : List AOper} : runOps P (⟨d, .extract x i, none⟩ :: os) fs Q s = thenK P (aop (.extract x i) s) d os fs Q s := rfl
theorem runOps_field (off sz : Nat) (ag : Bool) (x : AX) {d : Option Nat} {os : List AOper} : runOps P (⟨d, .field off sz ag x, none⟩ :: os) fs Q s = thenK P (aop (.field off sz ag x) s) d os fs Q s := rfl
theorem runOps_fieldAddr (off : Nat) (x : AX) {d : Option Nat} {os : List AOper} : runOps P (⟨d, .fieldAddr off x, none⟩ :: os) fs Q s = thenK P (aop (.fieldAddr off x) s) d os fs Q s := rfl
theorem runOps_indexAddr (sz : Nat) (x i : AX) {d : Option Nat} {os : List AOper} : runOps P (⟨d, .indexAddr sz x i, none⟩ :: os) fs Q s = thenK P (aop (.indexAddr sz x i) s) d os fs Q s := rfl
theorem runOps_indexStr (x i : AX) {d : Option Nat} {os : List AOper} : runOps P (⟨d, .indexStr x i, none⟩ :: os) fs Q s = thenK P (aop (.indexStr x i) s) d os fs Q s := rfl
theorem runOps_slice (sz : Nat) (x : AX) (lo hi mx : Option AX) {d : Option Nat} {os : List AOper} : runOps P (⟨d, .slice sz x lo hi mx, none⟩ :: os) fs Q s = thenK P (aop (.slice sz x lo hi mx) s) d os fs Q s := rfl
theorem runOps_sliceStr (x : AX) (lo hi : Option AX) {d : Option Nat} {os : List AOper} : runOps P (⟨d, .sliceStr x lo hi, none⟩ :: os) fs Q s = thenK P (aop (.sliceStr x lo hi) s) d os fs Q s := rfl
theorem runOps_len (k : Nat) (x : AX) {d : Option Nat} {os : List AOper} : runOps P (⟨d, .len k x, none⟩ :: os) fs Q s = thenK P (aop (.len k x) s) d os fs Q s := rfl
theorem runOps_mkifc (t : TypeId) (x : AX) {d : Option Nat} {os : List AOper} : runOps P (⟨d, .mkifc t x, none⟩ :: os) fs Q s = thenK P (aop (.mkifc t x) s) d os fs Q s := rfl
theorem runOps_mkfn (f : Fn) (a b : List AX) {d : Option Nat} {os : List AOper} : runOps P (⟨d, .mkfn f a b, none⟩ :: os) fs Q s = thenK P (aop (.mkfn f a b) s) d os fs Q s := rfl
theorem runOps_build (zs : List AV) (ps : List (Nat × Nat × AX)) {d : Option Nat} {os : List AOper} : runOps P (⟨d, .build zs ps, none⟩ :: os) fs Q s = thenK P (aop (.build zs ps) s) d os fs Q s := rfl
theorem runOps_bslice (mu : Bool) (sz n : Nat) (zs : List AV) (ps : List (Nat × Nat × AX)) {d : Option Nat} {os : List AOper} : runOps P (⟨d, .bslice mu sz n zs ps, none⟩ :: os) fs Q s = thenK P (aop (.bslice mu sz n zs ps) s) d os fs Q s := rfl
theorem runOps_load (ag : Bool) (sz : Nat) (x : AX) {d : Option Nat} {os : List AOper} : runOps P (⟨d, .load ag sz x, none⟩ :: os) fs Q s = thenK P (aop (.load ag sz x) s) d os fs Q s := rfl
theorem runOps_store (sz : Nat) (x v : AX) {d : Option Nat} {os : List AOper} : runOps P (⟨d, .store sz x v, none⟩ :: os) fs Q s = thenK P (aop (.store sz x v) s) d os fs Q s := rfl
theorem runOps_alloc (cs : List AV) {d : Option Nat} {os : List AOper} : runOps P (⟨d, .alloc cs, none⟩ :: os) fs Q s = thenK P (aop (.alloc cs) s) d os fs Q s := rfl
theorem runOps_box (fz : Bool) (v : AX) {d : Option Nat} {os : List AOper} : runOps P (⟨d, .box fz v, none⟩ :: os) fs Q s = thenK P (aop (.box fz v) s) d os fs Q s := rfl
theorem runOps_mkslice (sz bytes : Nat) (zs : List AV) (l c : AX) {d : Option Nat} {os : List AOper} : runOps P (⟨d, .mkslice sz bytes zs l c, none⟩ :: os) fs Q s = thenK P (aop (.mkslice sz bytes zs l c) s) d os fs Q s := rfl
theorem runOps_sappend (sz bytes : Nat) (b x y : AX) {d : Option Nat} {os : List AOper} : runOps P (⟨d, .sappend sz bytes b x y, none⟩ :: os) fs Q s = thenK P (aop (.sappend sz bytes b x y) s) d os fs Q s := rfl
theorem runOps_kappend (sz bytes : Nat) (x y : AX) {d : Option Nat} {os : List AOper} : runOps P (⟨d, .kappend sz bytes x y, none⟩ :: os) fs Q s = thenK P (aop (.kappend sz bytes x y) s) d os fs Q s := rfl
theorem runOps_mm3 (mx : Bool) (x y z : AX) {d : Option Nat} {os : List AOper} : runOps P (⟨d, .mm3 mx x y z, none⟩ :: os) fs Q s = thenK P (aop (.mm3 mx x y z) s) d os fs Q s := rfl
theorem runOps_append (fz : Bool) (sz bytes : Nat) (x y : AX) {d : Option Nat} {os : List AOper} : runOps P (⟨d, .append fz sz bytes x y, none⟩ :: os) fs Q s = thenK P (aop (.append fz sz bytes x y) s) d os fs Q s := rfl
theorem runOps_mkmap  {d : Option Nat} {os : List AOper} : runOps P (⟨d, .mkmap, none⟩ :: os) fs Q s = thenK P (aop .mkmap s) d os fs Q s := rfl
theorem runOps_lookup (kd : Nat) (zero : AV) (ok : Bool) (m k : AX) {d : Option Nat} {os : List AOper} : runOps P (⟨d, .lookup kd zero ok m k, none⟩ :: os) fs Q s = thenK P (aop (.lookup kd zero ok m k) s) d os fs Q s := rfl
theorem runOps_mapset (kd : Nat) (m k v : AX) {d : Option Nat} {os : List AOper} : runOps P (⟨d, .mapset kd m k v, none⟩ :: os) fs Q s = thenK P (aop (.mapset kd m k v) s) d os fs Q s := rfl
theorem runOps_delete (kd : Nat) (m k : AX) {d : Option Nat} {os : List AOper} : runOps P (⟨d, .delete kd m k, none⟩ :: os) fs Q s = thenK P (aop (.delete kd m k) s) d os fs Q s := rfl
theorem runOps_lenm (x : AX) {d : Option Nat} {os : List AOper} : runOps P (⟨d, .lenm x, none⟩ :: os) fs Q s = thenK P (aop (.lenm x) s) d os fs Q s := rfl
theorem runOps_copy (sz : Nat) (x y : AX) {d : Option Nat} {os : List AOper} : runOps P (⟨d, .copy sz x y, none⟩ :: os) fs Q s = thenK P (aop (.copy sz x y) s) d os fs Q s := rfl
theorem runOps_mm2 (mx : Bool) (x y : AX) {d : Option Nat} {os : List AOper} : runOps P (⟨d, .mm2 mx x y, none⟩ :: os) fs Q s = thenK P (aop (.mm2 mx x y) s) d os fs Q s := rfl
theorem runOps_indexA (ag : Bool) (sz len : Nat) (x i : AX) {d : Option Nat} {os : List AOper} : runOps P (⟨d, .indexA ag sz len x i, none⟩ :: os) fs Q s = thenK P (aop (.indexA ag sz len x i) s) d os fs Q s := rfl
theorem runOps_indexP (sz len : Nat) (x i : AX) {d : Option Nat} {os : List AOper} : runOps P (⟨d, .indexP sz len x i, none⟩ :: os) fs Q s = thenK P (aop (.indexP sz len x i) s) d os fs Q s := rfl
theorem runOps_sliceA (sz n : Nat) (x : AX) (lo hi : Option AX) {d : Option Nat} {os : List AOper} : runOps P (⟨d, .sliceA sz n x lo hi, none⟩ :: os) fs Q s = thenK P (aop (.sliceA sz n x lo hi) s) d os fs Q s := rfl
theorem runOps_eqS (ne : Bool) (l : List (Nat × Nat)) (x y : AX) {d : Option Nat} {os : List AOper} : runOps P (⟨d, .eqS ne l x y, none⟩ :: os) fs Q s = thenK P (aop (.eqS ne l x y) s) d os fs Q s := rfl
theorem runOps_clearS (sz : Nat) (zs : List AV) (x : AX) {d : Option Nat} {os : List AOper} : runOps P (⟨d, .clearS sz zs x, none⟩ :: os) fs Q s = thenK P (aop (.clearS sz zs x) s) d os fs Q s := rfl
theorem runOps_iload (ag : Bool) (sz : Nat) (x : AX) {d : Option Nat} {os : List AOper} : runOps P (⟨d, .iload ag sz x, none⟩ :: os) fs Q s = thenK P (aop (.iload ag sz x) s) d os fs Q s := rfl

/-- What a loop's round must come to. -/
def loopQ (P : Program) (J : Nat → St → Prop) (n : Nat) (fs : List Fr) (Q : Post) : Post := fun x s => match x with
  | .normal => ∃ m, m < n ∧ J m s
  | .exit i => onward P fs Q (.exit i) s
  | .ret => onward P fs Q .ret s
theorem loopQ_n {J : Nat → St → Prop} {n : Nat} : loopQ P J n fs Q .normal s = ∃ m, m < n ∧ J m s := rfl
theorem loopQ_e {J : Nat → St → Prop} {n i : Nat} : loopQ P J n fs Q (.exit i) s = onward P fs Q (.exit i) s := rfl
theorem loopQ_r {J : Nat → St → Prop} {n : Nat} : loopQ P J n fs Q .ret s = onward P fs Q .ret s := rfl

theorem run_loop {a : ACode} (J : Nat → St → Prop) (n : Nat) (h0 : J n s) (h : ∀ n A H N, J n ⟨A, H, N⟩ → run P a [] (loopQ P J n fs Q) ⟨A, H, N⟩) : run P (.loop a) fs Q s :=
  ⟨J, n, h0, fun n s' hs => by
    have := h n s'.A s'.H s'.N hs
    exact this⟩

theorem ev_val {a : AV} : s.ev (.val a) = a := rfl
theorem ev_tmp {t : Nat} : s.ev (.tmp t) = s.A t := rfl
theorem put_some {A : Nat → AV} {H : AHeap} {N d : Nat} {v : AV} : St.put ⟨A, H, N⟩ (some d) v = ⟨upA A d v, H, N⟩ := rfl
theorem put_none {s : St} {v : AV} : s.put none v = s := rfl
theorem upd_some {A : Nat → AV} {H H' : AHeap} {N N' d : Nat} {v : AV} : St.upd ⟨A, H, N⟩ (some d) v H' N' = ⟨upA A d v, H', N'⟩ := rfl
theorem upd_none {A : Nat → AV} {H H' : AHeap} {N N' : Nat} {v : AV} : St.upd ⟨A, H, N⟩ none v H' N' = ⟨A, H', N'⟩ := rfl
theorem St0_eq {args : List AV} {H : AHeap} {N : Nat} : St0 args H N = ⟨argA args, H, N⟩ := rfl

/-- The end of a function. -/
def fin (l : List RV) (Q : AV → AHeap → Nat → Prop) : Post := fun x s => match x with
  | .exit _ => False
  | _ => ares l s (fun v => Q v s.H s.N)

/-- An answer. -/
def ansK (Q : AV → AHeap → Nat → Prop) (r : Option AV) (H : AHeap) (N : Nat) : Prop := match r with
  | some v => Q v H N
  | none => False
theorem ansK_some {Q : AV → AHeap → Nat → Prop} {v : AV} {H : AHeap} {N : Nat} : ansK Q (some v) H N = Q v H N := rfl
def rvs (l : List RV) (s : St) : Option AV := match l with
  | [r] => r.get s
  | l => (l.mapM (RV.get s)).map .tup
theorem fin_eq {l : List RV} {Q : AV → AHeap → Nat → Prop} {x : AExit} (h : x = .ret ∨ x = .normal) : fin l Q x s = ansK Q (rvs l s) s.H s.N := by
  have key : ares l s (fun v => Q v s.H s.N) = ansK Q (rvs l s) s.H s.N := by
    match l with
    | [] => rfl
    | [r] => first | (simp only [ares, rvs, ansK]; done) | (simp only [ares, rvs, ansK]; cases r.get s <;> rfl)
    | r :: q :: l => first | (simp only [ares, rvs, ansK]; done) | (simp only [ares, rvs, ansK]; cases List.mapM (RV.get s) (r :: q :: l) <;> rfl)
  rcases h with rfl | rfl <;> exact key
theorem fin_r {l : List RV} {Q : AV → AHeap → Nat → Prop} : fin l Q .ret s = ansK Q (rvs l s) s.H s.N := fin_eq (.inl rfl)
theorem fin_n {l : List RV} {Q : AV → AHeap → Nat → Prop} : fin l Q .normal s = ansK Q (rvs l s) s.H s.N := fin_eq (.inr rfl)
theorem fin_r0 {Q : AV → AHeap → Nat → Prop} {A : Nat → AV} {H : AHeap} {N : Nat} : fin [] Q .ret ⟨A, H, N⟩ = Q (.tup []) H N := rfl
theorem fin_r1 {Q : AV → AHeap → Nat → Prop} {A : Nat → AV} {H : AHeap} {N a : Nat} : fin [.tmp a] Q .ret ⟨A, H, N⟩ = Q (A a) H N := rfl
theorem fin_r2 {Q : AV → AHeap → Nat → Prop} {A : Nat → AV} {H : AHeap} {N a b : Nat} : fin [.tmp a, .tmp b] Q .ret ⟨A, H, N⟩ = Q (.tup [A a, A b]) H N := rfl
theorem fin_r3 {Q : AV → AHeap → Nat → Prop} {A : Nat → AV} {H : AHeap} {N a b c : Nat} : fin [.tmp a, .tmp b, .tmp c] Q .ret ⟨A, H, N⟩ = Q (.tup [A a, A b, A c]) H N := rfl
theorem fin_rc {Q : AV → AHeap → Nat → Prop} {A : Nat → AV} {H : AHeap} {N a sz : Nat} {ag : Bool} : fin [.cell a sz ag] Q .ret ⟨A, H, N⟩ = ansK Q (aload H ag sz (A a)) H N := rfl
theorem fin_rct {Q : AV → AHeap → Nat → Prop} {A : Nat → AV} {H : AHeap} {N a b sz : Nat} {ag : Bool} : fin [.cell a sz ag, .tmp b] Q .ret ⟨A, H, N⟩ = ansK Q ((aload H ag sz (A a)).map fun v => .tup [v, A b]) H N := by
  rw [fin_r]; cases h : aload H ag sz (A a) <;> simp [rvs, RV.get, h]
theorem fin_rtc {Q : AV → AHeap → Nat → Prop} {A : Nat → AV} {H : AHeap} {N a b sz : Nat} {ag : Bool} : fin [.tmp b, .cell a sz ag] Q .ret ⟨A, H, N⟩ = ansK Q ((aload H ag sz (A a)).map fun v => .tup [A b, v]) H N := by
  rw [fin_r]; cases h : aload H ag sz (A a) <;> simp [rvs, RV.get, h]
theorem fin_n0 {Q : AV → AHeap → Nat → Prop} {A : Nat → AV} {H : AHeap} {N : Nat} : fin [] Q .normal ⟨A, H, N⟩ = Q (.tup []) H N := rfl
theorem fin_n1 {Q : AV → AHeap → Nat → Prop} {A : Nat → AV} {H : AHeap} {N a : Nat} : fin [.tmp a] Q .normal ⟨A, H, N⟩ = Q (A a) H N := rfl
theorem fin_n2 {Q : AV → AHeap → Nat → Prop} {A : Nat → AV} {H : AHeap} {N a b : Nat} : fin [.tmp a, .tmp b] Q .normal ⟨A, H, N⟩ = Q (.tup [A a, A b]) H N := rfl
theorem fin_n3 {Q : AV → AHeap → Nat → Prop} {A : Nat → AV} {H : AHeap} {N a b c : Nat} : fin [.tmp a, .tmp b, .tmp c] Q .normal ⟨A, H, N⟩ = Q (.tup [A a, A b, A c]) H N := rfl
theorem fin_nc {Q : AV → AHeap → Nat → Prop} {A : Nat → AV} {H : AHeap} {N a sz : Nat} {ag : Bool} : fin [.cell a sz ag] Q .normal ⟨A, H, N⟩ = ansK Q (aload H ag sz (A a)) H N := rfl

theorem acall (hm : P.follows .mixedOrders = true) {f : FuncId} {An : Ann} {ac : ACode} {l : List RV} {nt : Nat} (hc : codeOf P An f = some (ac, l, nt))
    {args : List AV} (hle : args.length ≤ nt) {H : AHeap} {N : Nat} {Q : AV → AHeap → Nat → Prop} (h : run P ac [] (fin l Q) ⟨argA args, H, N⟩) : ACall P f args H N Q := by
  refine acall_awp hm hc hle ?_
  have : (fun x s => match x with | .exit _ => False | _ => ares l s (fun v => Q v s.H s.N)) = fin l Q := by
    funext x s
    cases x <;> rfl
  rw [this]
  exact h
end

attribute [simp ↓] run_range rndB_n rndB_e rndB_r rndA_n putL_cons putL_nil runOps_indexA runOps_indexP runOps_sliceA runOps_eqS runOps_clearS ev_glob fin_r0 fin_r1 fin_r2 fin_r3 fin_rc fin_rct fin_rtc fin_n0 fin_n1 fin_n2 fin_n3 fin_nc
attribute [simp ↓] run_skip run_ops run_seq run_block run_exit run_ret run_cond onward_nil onward_seq_n onward_seq_e onward_seq_r onward_blk_n onward_blk_e onward_blk_r runOps_nil afterK_eq afterKK_eq runOps_guarded runOps_call runOps_kcall runOps_pcall
attribute [simp ↓] runOps_val runOps_pick runOps_nilck runOps_bin runOps_un runOps_conv runOps_extract runOps_field runOps_fieldAddr runOps_indexAddr runOps_indexStr runOps_slice runOps_sliceStr runOps_len runOps_mkifc runOps_mkfn runOps_build runOps_bslice runOps_load runOps_store runOps_alloc runOps_box runOps_mkslice runOps_append runOps_sappend runOps_kappend runOps_mm3 runOps_mkmap runOps_lookup runOps_mapset runOps_delete runOps_lenm runOps_copy runOps_mm2 runOps_iload
attribute [simp ↓] ev_val ev_tmp put_some put_none upd_some upd_none St0_eq upA_at argA_at loopQ_n loopQ_e loopQ_r
theorem set_at {H : AHeap} {id i : Nat} {o : AObj} : (H.set id o) i = if i = id then some o else H i := rfl
theorem set_set {H : AHeap} {id : Nat} {a b : AObj} : (H.set id a).set id b = H.set id b := by
  funext i
  simp only [AHeap.set]
  split <;> rfl

theorem splice_one {off : Nat} {c : AV} {cs : List AV} : splice off [c] cs = cs.set off c := rfl

attribute [simp] set_at set_set splice_one astore afill chunks asrc Value.oneCell' anil aidxs noHeap_or set_or
attribute [simp] ansK_some callK_y eqsV aeqs aindexA aindexP
attribute [simp] thenK_some condK_true condK_false guardK_true guardK_tf guardK_ft guardK_false guardK_undef guardK_tuple callK_0 callK_1
attribute [simp] aop abin ibin ibin2 aun aload AV.cells afield apart alookup alook amapset amapdel afind keq akind alen alenm amm

end Go.Fw
