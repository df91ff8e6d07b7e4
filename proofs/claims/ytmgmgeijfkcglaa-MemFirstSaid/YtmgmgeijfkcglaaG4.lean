/- Framework, part 13: calls, code, and what must hold ahead of it. -/
import Derived.Test.YtmgmgeijfkcglaaG3
namespace Go.Fw
set_option linter.unusedSimpArgs false
set_option linter.unusedVariables false
open Go
set_option linter.unusedSectionVars false
variable [Globals]

/-- A function that has a body of Go. -/
def goodFn (P : Program) (f : FuncId) : Bool :=
  match P.funcs[f]? with
  | some fn => fn.body.isSome && !(fn.name == "runtime.NumGoroutine")
  | none => false

theorem goodFn_run {P : Program} {f : FuncId} (h : goodFn P f = true) (args : Array Value) (w : World) : (callFunc f args).run P w = .ok (.enter f args) w := by
  unfold goodFn at h
  split at h
  · rename_i fn hf
    simp only [Bool.and_eq_true, Bool.not_eq_true', beq_eq_false_iff_ne, ne_eq] at h
    obtain ⟨h1, h2⟩ := h
    obtain ⟨c, hc⟩ := Option.isSome_iff_exists.1 h1
    simp [callFunc, hf, h2, hc]
  · cases h

/-- A call: whatever the world, it returns what Q says. -/
def ACall (P : Program) (f : FuncId) (args : List AV) (H : AHeap) (N : Nat) (Q : AV → AHeap → Nat → Prop) : Prop :=
  goodFn P f = true ∧ ∀ (e : Env) (vs : List Value), HRep e H → e.N = N → vs.length = args.length → (∀ (i : Nat) (c : AV) (v : Value), args[i]? = some c → vs[i]? = some v → Rep e c v) →
    Calls P f vs.toArray e.w (fun x w' => ∃ v e' r H', x = .returned v ∧ e'.w = w' ∧ Q r H' e'.N ∧ Rep e' r v ∧ HRep e' H' ∧ Tr e H e' H')

theorem ACall.mono {P : Program} {f : FuncId} {args : List AV} {H : AHeap} {N : Nat} {Q Q' : AV → AHeap → Nat → Prop} (h : ACall P f args H N Q) (hq : ∀ r H' N', Q r H' N' → Q' r H' N') : ACall P f args H N Q' :=
  ⟨h.1, fun e vs h1 h2 h3 h4 => (h.2 e vs h1 h2 h3 h4).mono fun _ _ ⟨v, e', r, H', a, b, c, d⟩ => ⟨v, e', r, H', a, b, hq _ _ _ c, d⟩⟩

/-- How a world goes on when only new memory was made. -/
structure PTr (e e' : Env) : Prop where
  ρ : e'.ρ = e.ρ
  N : e'.N = e.N
  old : ∀ b, b < e.w.heap.size → e'.w.heap[b]? = e.w.heap[b]?
  I : ∀ b, e.I b → e'.I b
  I' : ∀ b, e'.I b → e.I b ∨ (e.w.heap.size ≤ b ∧ b < e'.w.heap.size)
  size : e.w.heap.size ≤ e'.w.heap.size
  os : e'.w.os = e.w.os
  tape : e'.w.tape = e.w.tape
  output : e'.w.output = e.w.output

theorem PTr.ext {e e' : Env} (h : PTr e e') (hi : ∀ b, e.I b → b < e.w.heap.size) : Ext e e' where
  I := h.I
  imm := fun b hb => h.old b (hi b hb)
  ρ := fun id _ => by rw [h.ρ]
  N := by rw [h.N]; exact Nat.le_refl _
  shape := fun b c t fz hb => ⟨c, fz, (h.old b (lt_of_heap hb)).trans hb, rfl⟩

theorem PTr.hrep {e e' : Env} {H : AHeap} (h : PTr e e') (hH : HRep e H) : HRep e' H :=
  hH.keep (h.ext hH.imm) (fun id o ho => h.old _ (hH.at_ id o ho).2.2.lt) (fun b hb => (h.I' b hb).imp id (fun x => x.1)) (fun b hb => by
    rcases h.I' b hb with h1 | h1
    · exact Nat.lt_of_lt_of_le (hH.imm b h1) h.size
    · exact h1.2)

theorem PTr.tr {e e' : Env} {H : AHeap} (h : PTr e e') (hH : HRep e H) : Tr e H e' H :=
  ⟨h.ext hH.imm, fun b hb _ => h.old b hb, fun b ⟨i, o, h1, h2⟩ => .inl ⟨i, o, h1, by rw [← h.ρ]; exact h2⟩, fun b hb => (h.I' b hb).imp id (fun x => .inr x.1), h.size, h.os, h.tape, h.output⟩

/-- A call that only makes memory, and whose answer nobody writes. -/
def PCall (P : Program) (f : FuncId) (args : List AV) (r : AV) : Prop :=
  goodFn P f = true ∧ ∀ (e : Env) (vs : List Value), ((∀ b, e.I b → b < e.w.heap.size) ∧ GlobOk e) → vs.length = args.length → (∀ (i : Nat) (c : AV) (v : Value), args[i]? = some c → vs[i]? = some v → Rep e c v) →
    Calls P f vs.toArray e.w (fun x w' => ∃ v e', x = .returned v ∧ e'.w = w' ∧ Rep e' r v ∧ PTr e e')

theorem PCall.acall {P : Program} {f : FuncId} {args : List AV} {r : AV} (h : PCall P f args r) {H : AHeap} {N : Nat} {Q : AV → AHeap → Nat → Prop} (hq : Q r H N) : ACall P f args H N Q :=
  ⟨h.1, fun e vs h1 h2 h3 h4 => (h.2 e vs ⟨h1.imm, h1.gl⟩ h3 h4).mono fun _ _ ⟨v, e', a, b, c, d⟩ => ⟨v, e', r, H, a, b, by rw [d.N, h2]; exact hq, c, d.hrep h1, d.tr h1⟩⟩

/-- The fence of everything, within a round or not. -/
def FnR (r : Option Nat) : Fence := { Fence.wide with round := r }

/-- A round, asked for by a call of a loop's 'yield'. -/
def YRun (P : Program) (l : Nat) (args : Array Value) (w : World) (R : Ending → World → Prop) : Prop :=
  ∃ f tmps asg body, (Instr.yield l args).run P w = .ok (.round l f tmps asg body) w ∧ RoundIn Fence.wide 0 P l f tmps asg body w R

/-- A call of a loop's 'yield'. -/
def YCall (P : Program) (id : Nat) (args : List AV) (H : AHeap) (N : Nat) (Q : AV → AHeap → Nat → Prop) : Prop :=
  ∀ (e : Env) (vs : List Value), HRep e H → e.N = N → vs.length = args.length → (∀ (i : Nat) (c : AV) (v : Value), args[i]? = some c → vs[i]? = some v → Rep e c v) →
    YRun P (e.ρ id).1 vs.toArray e.w (fun x w' => ∃ v e' r H', x = .returned v ∧ e'.w = w' ∧ Q r H' e'.N ∧ Rep e' r v ∧ HRep e' H' ∧ Tr e H e' H')

theorem YCall.mono {P : Program} {id : Nat} {args : List AV} {H : AHeap} {N : Nat} {Q Q' : AV → AHeap → Nat → Prop} (h : YCall P id args H N Q) (hq : ∀ r H' N', Q r H' N' → Q' r H' N') : YCall P id args H N Q' :=
  fun e vs h1 h2 h3 h4 => by
    obtain ⟨f, tmps, asg, body, k1, k2⟩ := h e vs h1 h2 h3 h4
    exact ⟨f, tmps, asg, body, k1, k2.mono fun _ _ ⟨v, e', r, H', a, b, c, d⟩ => ⟨v, e', r, H', a, b, hq _ _ _ c, d⟩⟩

/-- A call of whatever may be called. -/
def CallV (P : Program) (f : AV) (args : List AV) (H : AHeap) (N : Nat) (Q : AV → AHeap → Nat → Prop) : Prop := match f with
  | .fn (.func f) first capt => ACall P f (first ++ args ++ capt) H N Q
  | .yl id => YCall P id args H N Q
  | _ => False

theorem CallV.mono {P : Program} {f : AV} {args : List AV} {H : AHeap} {N : Nat} {Q Q' : AV → AHeap → Nat → Prop} (h : CallV P f args H N Q) (hq : ∀ r H' N', Q r H' N' → Q' r H' N') : CallV P f args H N Q' := by
  unfold CallV at h ⊢
  split at h
  · exact h.mono hq
  · exact h.mono hq
  · exact h.elim

structure AOper where
  dst : Option Nat
  op : AOp
  guard : Option (Nat × Bool)
  deriving Inhabited

def gate (s : St) : Option (Nat × Bool) → Option Bool
  | none => some true
  | some (t, w) => match s.A t with
    | .lit (.bool b) => some (b == w)
    | .lit (.tuple _) => some false
    | _ => none

def St.upd (s : St) (d : Option Nat) (v : AV) (H : AHeap) (N : Nat) : St := St.put { s with H := H, N := N } d v

/-- All objects are as they were; there may be more. -/
def Keeps (H H' : AHeap) : Prop := ∀ id o, H id = some o → H' id = some o

/-- What must hold ahead of one operation. -/
def awpDo (P : Program) (o : AOper) (K : St → Prop) (s : St) : Prop :=
  match o.op with
  | .call f args => CallV P (s.ev f) (args.map s.ev) s.H s.N (fun r H' N' => K (s.upd o.dst r H' N'))
  | .kcall f args => match s.ev f with
    | .fn (.func f) first capt => ACall P f (first ++ args.map s.ev ++ capt) s.H s.N (fun r H' N' => Keeps s.H H' ∧ K (s.upd o.dst r H' N'))
    | .yl _ => False
    | _ => False
  | .pcall f args => match s.ev f with
    | .fn (.func f) first capt => ∃ r, PCall P f (first ++ args.map s.ev ++ capt) r ∧ K (s.put o.dst r)
    | .yl _ => False
    | _ => False
  | op => match aop op s with
    | some (v, H', N') => K (s.upd o.dst v H' N')
    | none => False

def awpOp (P : Program) (o : AOper) (K : St → Prop) (s : St) : Prop :=
  match o.guard with
  | none => awpDo P o K s
  | some g => ∃ b, gate s (some g) = some b ∧ (b = true → awpDo P o K s) ∧ (b = false → K (s.put o.dst (.lit undef)))

def awpOps (P : Program) : List AOper → (St → Prop) → St → Prop
  | [], K, s => K s
  | o :: os, K, s => awpOp P o (awpOps P os K) s

inductive AExit where
  | normal
  | exit (id : Nat)
  | ret
  deriving DecidableEq

inductive ACode where
  | skip
  | ops (l : List AOper)
  | seq (a b : ACode)
  | cond (c : AX) (a b : ACode)
  | block (id : Nat) (a : ACode)
  | loop (a : ACode)
  | exit (id : Nat)
  | ret
  | range (f : AX) (ps : List Nat) (asg body : ACode)
  | bad
  deriving Inhabited

/-- A round's temporaries: the loop's, with what is yielded. -/
def putL (A : Nat → AV) : List Nat → List AV → Nat → AV
  | p :: ps, a :: as => putL (fun t => if t = p then a else A t) ps as
  | _, _ => A

def awp (P : Program) : ACode → (AExit → St → Prop) → St → Prop
  | .skip, Q, s => Q .normal s
  | .ops l, Q, s => awpOps P l (Q .normal) s
  | .seq a b, Q, s => awp P a (fun x s' => match x with | .normal => awp P b Q s' | .exit i => Q (.exit i) s' | .ret => Q .ret s') s
  | .cond c a b, Q, s => match s.ev c with
    | .lit (.bool t) => (t = true → awp P a Q s) ∧ (t = false → awp P b Q s)
    | _ => False
  | .block id a, Q, s => awp P a (fun x s' => match x with | .normal => Q .normal s' | .exit i => if i = id then Q .normal s' else Q (.exit i) s' | .ret => Q .ret s') s
  | .loop a, Q, s => ∃ (J : Nat → St → Prop) (n : Nat), J n s ∧ ∀ n s', J n s' → awp P a (fun x s'' => match x with | .normal => ∃ m, m < n ∧ J m s'' | .exit i => Q (.exit i) s'' | .ret => Q .ret s'') s'
  | .exit id, Q, s => Q (.exit id) s
  | .ret, Q, s => Q .ret s
  | .range fx ps asg body, Q, s => match s.ev fx with
    | .fn (.func f) [] capt => ∀ (o ob : AObj) (od : AExit → AObj),
      (∀ (args : List AV) (H : AHeap) (N : Nat) (Q1 : AV → AHeap → Nat → Prop), H s.N = some o → args.length = ps.length →
        awp P asg (fun x s1 => x = .normal ∧ s1.H s.N = some o ∧ awp P body (fun x s2 => s2.H s.N = some ob ∧ (match x with
            | .normal => Q1 (.lit (.bool true)) (s2.H.set s.N o) s2.N
            | x => Q1 (.lit (.bool false)) (s2.H.set s.N (od x)) s2.N)) { s1 with H := s1.H.set s.N ob }) ⟨putL s.A ps args, H, N⟩ →
        YCall P s.N args H N Q1) →
      ACall P f (.yl s.N :: capt) (s.H.set s.N o) (s.N + 1) (fun _ H' N' => (H' s.N = some o ∧ Q .normal ⟨s.A, H'.del s.N, N'⟩) ∨ ∃ x, x ≠ .normal ∧ H' s.N = some (od x) ∧ Q x ⟨s.A, H'.del s.N, N'⟩)
    | _ => False
  | .bad, _, _ => False

def dstOk (n : Nat) (d : Option Nat) : Bool :=
  match d with
  | some d => decide (d < n)
  | none => true

theorem dstOk_lt {n : Nat} {d : Option Nat} (h : dstOk n d = true) : ∀ x, d = some x → x < n := fun x hx => by
  subst hx; simpa [dstOk] using h

/-- An operation that is not taken must not be reached. -/
def copB (P : Program) (An : Ann) (o : Oper) : AOp := (cop P An o).getD .bad

/-- Operations of a region, compiled. -/
def coper (P : Program) (An : Ann) (n : Nat) (ops : Array Oper) (o : Oper) : Option AOper :=
  if dstOk n o.dst = true then
    match o.guard with
    | none => some ⟨o.dst, copB P An o, none⟩
    | some (j, w) => match (ops[j]?).bind (·.dst) with
      | some t => some ⟨o.dst, copB P An o, some (t, w)⟩
      | none => none
  else none

section
variable {P : Program} {n : Nat}

/-- The marks that loops over functions have left among the deferred calls: blocks of nobody's, with no call. -/
def mark (D : Nat) : Deferred := { target := .collected D, args := #[] }
def Marks (e0 e : Env) (H : AHeap) (ds : List Deferred) : Prop :=
  ∃ Ds : List Nat, ds = Ds.map mark ∧ Ds.Nodup ∧ ∀ D ∈ Ds, e.w.heap[D]? = some (.deferred (some [])) ∧ ¬ e.I D ∧ ¬ Own e H D ∧ e0.w.heap.size ≤ D

theorem Marks.nil (e0 e : Env) (H : AHeap) : Marks e0 e H [] := ⟨[], rfl, .nil, fun D hD => by cases hD⟩

theorem Marks.tr {e0 e e' : Env} {H H' : AHeap} {ds : List Deferred} (h : Marks e0 e H ds) (t : Tr e H e' H') : Marks e0 e' H' ds := by
  obtain ⟨Ds, h1, h2, h3⟩ := h
  refine ⟨Ds, h1, h2, fun D hD => ?_⟩
  obtain ⟨k1, k2, k3, k4⟩ := h3 D hD
  have hlt := lt_of_heap k1
  refine ⟨(t.fr D hlt k3).trans k1, fun hI => ?_, fun hO => ?_, k4⟩
  · rcases t.im D hI with g | g | g
    · exact k2 g
    · exact k3 g
    · omega
  · rcases t.own D hO with g | g
    · exact k3 g
    · omega

/-- What is known behind a piece of code. -/
def Nx (n : Nat) (e0 : Env) (H0 : AHeap) (K : St → Prop) : Act → World → Prop := fun a w =>
  ∃ e s, e.w = w ∧ K s ∧ Gam e n s a ∧ Marks e0 e s.H a.defers ∧ Tr e0 H0 e s.H

def ExitRel : AExit → Exit → Prop
  | .normal, .normal => True
  | .exit i, .exit j => i = j
  | .ret, .ret => True
  | _, _ => False

def Sat (n : Nat) (e0 : Env) (H0 : AHeap) (Q : AExit → St → Prop) : Exit → Act → World → Prop := fun x a w => ∃ y, ExitRel y x ∧ Nx n e0 H0 (Q y) a w

theorem gate_run {e : Env} {s : St} {a : Act} (g : Gam e n s a) {ops : Array Oper} {o : Oper} {j t : Nat} {w b : Bool} (hg : o.guard = some (j, w)) (ht : (ops[j]?).bind (·.dst) = some t)
    (h : gate s (some (t, w)) = some b) : Region.wanted o (yielded ops a.tmps) = b := by
  have hv := g.tm t
  have hgd : ∀ v, a.tmps.getD t undef = v → (a.tmps[t]?).getD undef = v := fun v hv => by rw [← hv]; simp [Array.getD_eq_getD_getElem?]
  unfold gate at h
  simp only at h
  unfold Region.wanted yielded
  simp only [hg, ht]
  split at h
  · rename_i c hc
    rw [hc] at hv
    generalize hx : a.tmps.getD t undef = x at hv
    cases hv
    have h1 := hgd _ hx
    cases h2 : a.tmps[t]? with
    | none => simp [h2, undef] at h1
    | some y =>
      simp [h2] at h1
      subst h1
      simp only [Option.bind_some, h2]
      cases h
      cases c <;> cases w <;> rfl
  · rename_i c hc
    rw [hc] at hv
    generalize hx : a.tmps.getD t undef = x at hv
    cases hv
    have h1 := hgd _ hx
    cases h
    cases h2 : a.tmps[t]? with
    | none => simp [h2]
    | some y =>
      simp [h2] at h1
      subst h1
      simp [h2]
  · cases h

theorem callee_run {e : Env} {s : St} {a : Act} (g : Gam e n s a) {o : Oper} {fx : Operand} {args : Array Operand} {at_ : Array TypeId} (ho : o.op = .call { callee := .value fx, args := args, argTypes := at_ })
    {f : FuncId} {first capt : List AV} (hf : s.ev (cX fx) = .fn (.func f) first capt) (hgood : goodFn P f = true) :
    ∃ vs : List Value, (execOp a.eval o).run P e.w = .ok (.enter f vs.toArray) e.w ∧ vs.length = (first ++ (args.toList.map cX).map s.ev ++ capt).length ∧
      ∀ (i : Nat) (c : AV) (v : Value), (first ++ (args.toList.map cX).map s.ev ++ capt)[i]? = some c → vs[i]? = some v → Rep e c v := by
  have hv := g.ev fx
  rw [hf] at hv
  generalize hx : a.eval fx = x at hv
  cases hv with
  | fn h1 h2 h3 h4 =>
    rename_i fs cs
    refine ⟨fs ++ args.toList.map a.eval ++ cs, ?_, by simp [h1, h2], fun i c v hc hv => ?_⟩
    · have hargs : fs.toArray ++ args.map a.eval ++ cs.toArray = (fs ++ args.toList.map a.eval ++ cs).toArray := by apply Array.ext'; simp
      simp only [execOp, ho, resolve, Deferred.ofValue, hx, Sem.run_bind, Sem.run_pure, Result.andThen_ok, invoke, hargs]
      exact goodFn_run hgood _ _
    · by_cases hi : i < first.length
      · rw [List.append_assoc, List.getElem?_append_left hi] at hc
        rw [List.append_assoc, List.getElem?_append_left (by omega)] at hv
        exact h3 i c v hc hv
      · rw [List.append_assoc, List.getElem?_append_right (by omega)] at hc
        rw [List.append_assoc, List.getElem?_append_right (by omega), h1] at hv
        by_cases hj : i - first.length < args.toList.length
        · rw [List.getElem?_append_left (by simpa using hj)] at hc
          rw [List.getElem?_append_left (by simpa using hj)] at hv
          exact g.evs args.toList _ c v hc hv
        · rw [List.getElem?_append_right (by simpa using hj)] at hc
          rw [List.getElem?_append_right (by simpa using hj)] at hv
          simp only [List.length_map] at hc hv
          exact h4 _ c v hc hv

theorem cop_call1 {An : Ann} {o : Oper} {fx : AX} {args : List AX} (hc : cop P An o = some (.call fx args)) :
    ∃ fo args' at_, o.op = .call { callee := .value fo, args := args', argTypes := at_ } ∧ fx = cX fo ∧ args = args'.toList.map cX := by
  unfold cop at hc
  split at hc
  case h_23 fo args' at_ ho =>
    split at hc
    · cases hc <;> exact ⟨fo, args', at_, ho, rfl, rfl⟩
    · split at hc <;> cases hc <;> exact ⟨fo, args', at_, ho, rfl, rfl⟩
  all_goals first | (cases hc; done) | (exfalso; revert hc; (repeat' (first | split | (intro hc; cases hc; done) | (simp only [Option.map_eq_some_iff]; intro ⟨_, _, hx⟩; cases hx; done) | (intro hc; dsimp only at hc; split at hc <;> cases hc))))

theorem cop_call2 {An : Ann} {o : Oper} {fx : AX} {args : List AX} (hc : cop P An o = some (.pcall fx args)) :
    ∃ fo args' at_, o.op = .call { callee := .value fo, args := args', argTypes := at_ } ∧ fx = cX fo ∧ args = args'.toList.map cX := by
  unfold cop at hc
  split at hc
  case h_23 fo args' at_ ho =>
    split at hc
    · cases hc <;> exact ⟨fo, args', at_, ho, rfl, rfl⟩
    · split at hc <;> cases hc <;> exact ⟨fo, args', at_, ho, rfl, rfl⟩
  all_goals first | (cases hc; done) | (exfalso; revert hc; (repeat' (first | split | (intro hc; cases hc; done) | (simp only [Option.map_eq_some_iff]; intro ⟨_, _, hx⟩; cases hx; done) | (intro hc; dsimp only at hc; split at hc <;> cases hc))))

theorem cop_call3 {An : Ann} {o : Oper} {fx : AX} {args : List AX} (hc : cop P An o = some (.kcall fx args)) :
    ∃ fo args' at_, o.op = .call { callee := .value fo, args := args', argTypes := at_ } ∧ fx = cX fo ∧ args = args'.toList.map cX := by
  unfold cop at hc
  split at hc
  case h_23 fo args' at_ ho =>
    split at hc
    · cases hc <;> exact ⟨fo, args', at_, ho, rfl, rfl⟩
    · split at hc <;> cases hc <;> exact ⟨fo, args', at_, ho, rfl, rfl⟩
  all_goals first | (cases hc; done) | (exfalso; revert hc; (repeat' (first | split | (intro hc; cases hc; done) | (simp only [Option.map_eq_some_iff]; intro ⟨_, _, hx⟩; cases hx; done) | (intro hc; dsimp only at hc; split at hc <;> cases hc))))

theorem callee_run_y {e : Env} {s : St} {a : Act} (g : Gam e n s a) {o : Oper} {fx : Operand} {args : Array Operand} {at_ : Array TypeId} (ho : o.op = .call { callee := .value fx, args := args, argTypes := at_ })
    {id : Nat} (hf : s.ev (cX fx) = .yl id) {Q : AV → AHeap → Nat → Prop} (h : YCall P id ((args.toList.map cX).map s.ev) s.H s.N Q) :
    ∃ f tmps asg body, (execOp a.eval o).run P e.w = .ok (.round (e.ρ id).1 f tmps asg body) e.w ∧ RoundIn Fence.wide 0 P (e.ρ id).1 f tmps asg body e.w
      (fun x w' => ∃ v e' r H', x = .returned v ∧ e'.w = w' ∧ Q r H' e'.N ∧ Rep e' r v ∧ HRep e' H' ∧ Tr e s.H e' H') := by
  have hv := g.ev fx
  rw [hf] at hv
  generalize hx : a.eval fx = x at hv
  cases hv with
  | yl hid =>
    obtain ⟨f, tmps, asg, body, h1, h2⟩ := h e (args.toList.map a.eval) g.H g.N (by simp) (g.evs args.toList)
    refine ⟨f, tmps, asg, body, ?_, h2⟩
    have hargs : (#[] : Array Value) ++ args.map a.eval = (args.toList.map a.eval).toArray := by apply Array.ext'; simp
    simp only [execOp, ho, resolve, Deferred.ofValue, hx, Sem.run_bind, Sem.run_pure, Result.andThen_ok, invoke, hargs]
    exact h1

theorem cop_semAt {An : Ann} {o : Oper} {ao : AOp} (hc : cop P An o = some ao) (r : Option Nat) (ρ : Operand → Value) : o.semAt r ρ = execOp ρ o :=
  Oper.semAt_eq r ρ o fun c hd => by simp [cop, hd] at hc

/-- One operation. -/
theorem awpDo_sound {r : Option Nat} {An : Ann} {o : Oper} {ao : AOp} {gd : Option (Nat × Bool)} (hc : cop P An o = some ao) (hd : ∀ d, o.dst = some d → d < n) {K : St → Prop} {s : St} {e e0 : Env} {H0 : AHeap} {a : Act}
    (h : awpDo P ⟨o.dst, ao, gd⟩ K s) (g : Gam e n s a) (hdef : Marks e0 e s.H a.defers) (ht : Tr e0 H0 e s.H) {Q : Exit → Act → World → Prop} : o.wpIn (FnR r) 0 P a e.w (Nx n e0 H0 K) Q := by
  refine ⟨fun _ _ => trivial, ?_⟩
  rw [cop_semAt hc]
  -- behind a step
  have behind : ∀ {e' : Env} {H' : AHeap} {av : AV} {v : Value}, Tr e s.H e' H' → HRep e' H' → Rep e' av v → K (s.upd o.dst av H' e'.N) → Nx n e0 H0 K (a.put o.dst v) e'.w := fun {e'} {H'} {av} {v} htr hH hr hq => by
    have hHe : (s.upd o.dst av H' e'.N).H = H' := by unfold St.upd St.put; cases o.dst <;> rfl
    refine ⟨e', _, rfl, hq, (g.move htr.ext hH).put hd hr, ?_, by rw [hHe]; exact ht.trans htr⟩
    have hdf : (a.put o.dst v).defers = a.defers := by cases o.dst <;> rfl
    rw [hdf, hHe]
    exact hdef.tr htr
  by_cases hcall : ∃ fx args, ao = .call fx args
  · obtain ⟨fx, args, rfl⟩ := hcall
    simp only [awpDo] at h
    obtain ⟨fo, args', at_, ho, rfl, rfl⟩ := cop_call1 hc
    cases hf : s.ev (cX fo) with
    | fn fk first capt =>
      cases fk with
      | func f =>
        simp only [hf, CallV] at h
        obtain ⟨vs, h1, h2, h3⟩ := callee_run g ho hf h.1
        rw [h1]
        refine ⟨fun hx => (by cases hx), ?_⟩
        have key : CallsIn (FnR r) (0 - 1) P f vs.toArray e.w _ := callsIn_wide (n := 0).2 (h.2 e vs g.H g.N h2 h3)
        refine key.mono ?_
        rintro x w' ⟨v, e', r, H', rfl, rfl, hq, hr, hH, htr⟩
        exact behind htr hH hr hq
      | _ => rw [hf] at h; exact h.elim
    | yl id =>
      simp only [hf, CallV] at h
      obtain ⟨f, tmps, asg, body, h1, h2⟩ := callee_run_y g ho hf h
      rw [h1]
      refine ⟨fun hx => (by cases hx), ?_⟩
      have key : RoundIn (FnR r) (0 - 1) P (e.ρ id).1 f tmps asg body e.w _ := h2
      refine key.mono ?_
      rintro x w' ⟨v, e', r, H', rfl, rfl, hq, hr, hH, htr⟩
      exact behind htr hH hr hq
    | _ => rw [hf] at h; exact h.elim
  by_cases hkcall : ∃ fx args, ao = .kcall fx args
  · obtain ⟨fx, args, rfl⟩ := hkcall
    simp only [awpDo] at h
    obtain ⟨fo, args', at_, ho, rfl, rfl⟩ := cop_call3 hc
    split at h
    · rename_i f first capt hf
      obtain ⟨vs, h1, h2, h3⟩ := callee_run g ho hf h.1
      rw [h1]
      refine ⟨fun hx => (by cases hx), ?_⟩
      have key : CallsIn (FnR r) (0 - 1) P f vs.toArray e.w _ := callsIn_wide (n := 0).2 (h.2 e vs g.H g.N h2 h3)
      refine key.mono ?_
      rintro x w' ⟨v, e', r, H', rfl, rfl, ⟨_, hq⟩, hr, hH, htr⟩
      exact behind htr hH hr hq
    · exact h.elim
    · exact h.elim
  by_cases hpcall : ∃ fx args, ao = .pcall fx args
  · obtain ⟨fx, args, rfl⟩ := hpcall
    simp only [awpDo] at h
    obtain ⟨fo, args', at_, ho, rfl, rfl⟩ := cop_call2 hc
    split at h
    · rename_i f first capt hf
      obtain ⟨r', hp, hk⟩ := h
      obtain ⟨vs, h1, h2, h3⟩ := callee_run g ho hf hp.1
      rw [h1]
      refine ⟨fun hx => (by cases hx), ?_⟩
      have key : CallsIn (FnR r) (0 - 1) P f vs.toArray e.w _ := callsIn_wide (n := 0).2 (hp.2 e vs ⟨g.H.imm, g.H.gl⟩ h2 h3)
      refine key.mono ?_
      rintro x w' ⟨v, e', rfl, rfl, hr, htr⟩
      have hup : s.upd o.dst r' s.H e'.N = s.put o.dst r' := by
        rw [htr.N, g.N]
        unfold St.upd; cases o.dst <;> rfl
      exact behind (htr.tr g.H) (htr.hrep g.H) hr (by rw [hup]; exact hk)
    · exact h.elim
    · exact h.elim
  · have h' : match aop ao s with | some (v, H', N') => K (s.upd o.dst v H' N') | none => False := by
      unfold awpDo at h
      simp only at h
      split at h
      · exact absurd ⟨_, _, rfl⟩ hcall
      · exact absurd ⟨_, _, rfl⟩ hkcall
      · exact absurd ⟨_, _, rfl⟩ hpcall
      · exact h
    split at h'
    · rename_i v H' N' hop
      obtain ⟨nx, rv, e', h1, h2, h3, h4, h5, h6⟩ := aop_sound hc g hop
      have key : Nx n e0 H0 K (a.put o.dst rv) e'.w := behind h6 h4 h3 (by rw [h5]; exact h')
      rw [h1]
      rcases h2 with rfl | ⟨rfl, rfl⟩
      · exact key
      · exact key
    · exact h'.elim

theorem awpDo_soundB {r : Option Nat} {An : Ann} {o : Oper} {gd : Option (Nat × Bool)} (hd : ∀ d, o.dst = some d → d < n) {K : St → Prop} {s : St} {e e0 : Env} {H0 : AHeap} {a : Act}
    (h : awpDo P ⟨o.dst, copB P An o, gd⟩ K s) (g : Gam e n s a) (hdef : Marks e0 e s.H a.defers) (ht : Tr e0 H0 e s.H) {Q : Exit → Act → World → Prop} : o.wpIn (FnR r) 0 P a e.w (Nx n e0 H0 K) Q := by
  cases hc : cop P An o with
  | none => unfold copB at h; rw [hc] at h; exact h.elim
  | some ao => unfold copB at h; rw [hc] at h; exact awpDo_sound hc hd h g hdef ht

theorem Marks.put {e0 e : Env} {H : AHeap} {a : Act} (h : Marks e0 e H a.defers) (d : Option Nat) (v : Value) : Marks e0 e H (a.put d v).defers := by
  cases d <;> exact h

theorem awpOps_sound {r : Option Nat} {An : Ann} {ops : Array Oper} {K : St → Prop} {e0 : Env} {H0 : AHeap} {Q : Exit → Act → World → Prop} (hQ : ∀ a w, Nx n e0 H0 K a w → Q .normal a w) :
    ∀ (l : List Oper) (al : List AOper) (s : St) (e : Env) (a : Act), l.mapM (coper P An n ops) = some al → awpOps P al K s → Gam e n s a → Marks e0 e s.H a.defers → Tr e0 H0 e s.H → wpListIn (FnR r) 0 P ops Q l a e.w
  | [], al, s, e, a, hc, h, g, hdef, ht => by
    simp at hc
    subst hc
    exact hQ _ _ ⟨e, s, rfl, h, g, hdef, ht⟩
  | o :: l, al, s, e, a, hc, h, g, hdef, ht => by
    simp only [List.mapM_cons, Option.bind_eq_bind, Option.pure_def, Option.bind_eq_some_iff, Option.some.injEq] at hc
    obtain ⟨ao, hco, al', hcl, rfl⟩ := hc
    simp only [awpOps] at h
    unfold coper at hco
    split at hco
    · rename_i hdst
      have hd := dstOk_lt hdst
      have run : ∀ gd, awpDo P ⟨o.dst, copB P An o, gd⟩ (awpOps P al' K) s → o.wpIn (FnR r) 0 P a e.w (wpListIn (FnR r) 0 P ops Q l) Q := fun gd hdo =>
        Oper.wpIn_mono (fun a' w' hn => by
          obtain ⟨e', s', rfl, h1, h2, h3, h4⟩ := hn
          exact awpOps_sound hQ l al' s' e' a' hcl h1 h2 h3 h4) (awpDo_soundB hd hdo g hdef ht)
      split at hco
      · rename_i hgd
        cases hco
        simp only [awpOp] at h
        unfold wpListIn
        rw [if_pos (by simp [Region.wanted, hgd])]
        exact run _ h
      · rename_i j w hgd
        split at hco
        · rename_i t htt
          cases hco
          simp only [awpOp] at h
          obtain ⟨b, h1, h2, h3⟩ := h
          have hw := gate_run g hgd htt h1
          unfold wpListIn
          rw [hw]
          cases b with
          | true => rw [if_pos rfl]; exact run _ (h2 rfl)
          | false =>
            rw [if_neg (by simp)]
            have hH : (s.put o.dst (.lit undef)).H = s.H := by unfold St.put; cases o.dst <;> rfl
            refine ⟨fun _ _ => trivial, awpOps_sound hQ l al' _ e _ hcl (h3 rfl) (g.put hd (.lit undef)) ?_ ?_⟩
            · rw [hH]; exact hdef.put _ _
            · rw [hH]; exact ht
        · cases hco
    · cases hco

end
end Go.Fw
