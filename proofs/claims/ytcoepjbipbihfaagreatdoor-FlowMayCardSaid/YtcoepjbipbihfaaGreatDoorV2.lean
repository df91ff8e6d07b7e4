/- flow: which graphs and programs of blocks may be, and which are the same: plain laws. -/
import Derived.Test.YtcoepjbipbihfaaGreatDoorV1
namespace Go.Proofs.YtcoepjbipbihfaaGreatDoor
set_option linter.unusedSimpArgs false
set_option linter.unusedVariables false
open Go Go.Fw

/-- All elements, with their numbers. -/
def zall {α : Type} (l : List α) (p : α → Nat → Bool) : Bool := l.zipIdx.all fun x => p x.1 x.2
theorem zall_iff {α : Type} {l : List α} {p : α → Nat → Bool} : zall l p = true ↔ ∀ i (h : i < l.length), p l[i] i = true := by
  unfold zall
  rw [List.all_eq_true]
  constructor
  · intro h i hi
    exact h (l[i], i) (by rw [List.mem_iff_getElem]; exact ⟨i, by simpa using hi, by simp⟩)
  · rintro h ⟨x, i⟩ hx
    obtain ⟨j, hj, he⟩ := List.getElem_of_mem hx
    simp only [List.getElem_zipIdx, Nat.zero_add, Prod.mk.injEq] at he
    obtain ⟨rfl, rfl⟩ := he
    exact h j (by simpa using hj)
theorem zall_bad {α : Type} {l : List α} {p : α → Nat → Bool} {i : Nat} (hi : i < l.length) (h : p l[i] i = false) : zall l p = false := by
  cases hq : zall l p with
  | false => rfl
  | true => rw [zall_iff.1 hq i hi] at h; cases h
theorem zall_and {α : Type} {l : List α} {p q : α → Nat → Bool} : zall l (fun x i => p x i && q x i) = (zall l p && zall l q) := by
  rw [Bool.eq_iff_iff, Bool.and_eq_true, zall_iff, zall_iff, zall_iff]
  constructor
  · intro h
    exact ⟨fun i hi => (Bool.and_eq_true _ _ ▸ h i hi).1, fun i hi => (Bool.and_eq_true _ _ ▸ h i hi).2⟩
  · rintro ⟨h1, h2⟩ i hi
    rw [h1 i hi, h2 i hi]; rfl

theorem mayB_congr {p q : PrgV} {f g : FunV} {x : Ins} (hm : p.mems.length = q.mems.length) (hl : p.locks.length = q.locks.length) (hf : (p.funs.map fun h => (h.thread, h.params)) = q.funs.map fun h => (h.thread, h.params)) (hc : f.code.length = g.code.length) (hr : f.regs = g.regs) : mayB p f x = mayB q g x := by
  have hn : numOk p f (ofR x.op) x = numOk q g (ofR x.op) x := by
    have hlen : p.funs.length = q.funs.length := by have := congrArg List.length hf; simpa using this
    have hat : ∀ i : Nat, (p.funs[i]?.map fun h => (h.thread, h.params)) = q.funs[i]?.map fun h => (h.thread, h.params) := fun i => by
      have := congrArg (fun l => l[i]?) hf
      simpa using this
    have := hat x.n.toNat
    cases h1 : p.funs[x.n.toNat]? with
    | none => cases h2 : q.funs[x.n.toNat]? with
      | none => simp only [numOk, hm, hl, hc, hlen, h1, h2]
      | some b => rw [h1, h2] at this; cases this
    | some a => cases h2 : q.funs[x.n.toNat]? with
      | none => rw [h1, h2] at this; cases this
      | some b =>
        rw [h1, h2] at this
        simp only [Option.map_some, Option.some.injEq, Prod.mk.injEq] at this
        simp only [numOk, hm, hl, hc, hlen, h1, h2, this.1, this.2]
  simp only [mayB, mayA, hn, hr]

/-- The instruction, as it is asked for. -/
def nAsk (x : Ins) : Ins := {x with n := if x.op = 5 ∨ x.op = 6 ∨ x.op = 7 ∨ x.op = 8 then 0 else if x.op = 10 then 1 else x.n}
def emp : ByteArray := ⟨#[]⟩
def onePrg (regs : Int) (k : Nat) : PrgV := ⟨.any, .any, .any, [⟨emp, 0, 0⟩], [emp], [⟨emp, false, 0, regs, .any, [zIns]⟩, ⟨emp, false, k, 0, .any, [zIns]⟩]⟩
def oneFun (regs : Int) : FunV := ⟨emp, false, 0, regs, .any, [zIns]⟩
/-- Whether an instruction may be in a graph of so many registers. -/
def insB (regs : Int) (x : Ins) : Bool := !decide ((x.n < 0 ∧ ¬ x.op = 1) ∨ 8 < x.args.length) && mayB (onePrg regs x.args.length) (oneFun regs) (nAsk x)
def insR (regs : Int) (x : Ins) : Bool := !decide ((x.op = 10 ∧ (x.n < 0 ∨ 8 < x.args.length)) ∨ ((5 ≤ x.op ∧ x.op ≤ 8) ∧ x.n < 0)) && mayB (onePrg regs x.args.length) (oneFun regs) (nAsk x)
theorem mayB_args {p : PrgV} {f : FunV} {x : Ins} (h : x.args ≠ []) (h6 : ¬ (ofR x.op).n = 6) : mayB p f x = false := by
  have : sameIns (bareIns (ofR x.op) x) zIns = false := by
    have hb : (bareIns (ofR x.op) x).args = x.args := by unfold bareIns bC; rw [if_neg h6]; rfl
    unfold sameIns
    rw [hb]
    exact decide_eq_false fun hh => h hh.2.2.2.2.2
  simp [mayB, mayA, this]
theorem mayB_n {p : PrgV} {f : FunV} {x : Ins} (h : x.n < 0) (h1 : ¬ (ofR x.op).n = 1 ∨ ¬ known x.op = true) : mayB p f x = false := by
  by_cases hk : known x.op = true
  · have h1 : ¬ (ofR x.op).n = 1 := h1.resolve_right (fun h => h hk)
    by_cases h0 : (ofR x.op).n = 0
    · have : sameIns (bareIns (ofR x.op) x) zIns = false := by
        have hb : (bareIns (ofR x.op) x).n = x.n := by
          unfold bareIns bC bN
          rw [if_neg (by omega), if_pos h0]
          rfl
        unfold sameIns
        rw [hb]
        exact decide_eq_false fun hh => by have := hh.2.2.2.2.1; simp [zIns] at this; omega
      simp [mayB, mayA, this]
    · have hr : (ofR x.op).n = 2 ∨ (ofR x.op).n = 3 ∨ (ofR x.op).n = 4 ∨ (ofR x.op).n = 5 ∨ (ofR x.op).n = 6 ∨ (ofR x.op).n = 7 := by
        rw [ofR_n] at h1 h0 ⊢
        simp [known] at hk
        repeat' split
        all_goals omega
      have hn : numOk p f (ofR x.op) x = false := by
        unfold numOk
        rcases hr with h | h | h | h | h | h <;> simp [h, within] <;> omega
      simp [mayB, mayA, hn]
  · simp [mayB, mayA, hk]
theorem nAsk_op (x : Ins) : (nAsk x).op = x.op := rfl
theorem nAsk_args (x : Ins) : (nAsk x).args = x.args := rfl
theorem insR_eq (regs : Int) (x : Ins) : insR regs x = insB regs x := by
  unfold insR insB
  by_cases hop : x.op = 10
  · rw [show decide ((x.op = 10 ∧ (x.n < 0 ∨ 8 < x.args.length)) ∨ ((5 ≤ x.op ∧ x.op ≤ 8) ∧ x.n < 0)) = decide ((x.n < 0 ∧ ¬ x.op = 1) ∨ 8 < x.args.length) from decide_eq_decide.2 (by omega)]
  · have h6 : ¬ (ofR (nAsk x).op).n = 6 := by
      rw [nAsk_op, ofR_n]
      repeat' split
      all_goals omega
    by_cases h8 : 8 < x.args.length
    · rw [mayB_args (x := nAsk x) (by rw [nAsk_args]; intro h; rw [h] at h8; simp at h8) h6, Bool.and_false, Bool.and_false]
    · by_cases hr : 5 ≤ x.op ∧ x.op ≤ 8
      · rw [show decide ((x.op = 10 ∧ (x.n < 0 ∨ 8 < x.args.length)) ∨ ((5 ≤ x.op ∧ x.op ≤ 8) ∧ x.n < 0)) = decide ((x.n < 0 ∧ ¬ x.op = 1) ∨ 8 < x.args.length) from decide_eq_decide.2 (by omega)]
      · by_cases h1 : x.n < 0 ∧ ¬ x.op = 1
        · have hn : (nAsk x).n = x.n := by simp only [nAsk]; rw [if_neg (by omega), if_neg (by omega)]
          rw [mayB_n (x := nAsk x) (by omega) (by
            rw [nAsk_op]
            by_cases hk : known x.op = true
            · left
              rw [ofR_n]
              repeat' split
              all_goals omega
            · exact .inr hk), Bool.and_false, Bool.and_false]
        · rw [show decide ((x.op = 10 ∧ (x.n < 0 ∨ 8 < x.args.length)) ∨ ((5 ≤ x.op ∧ x.op ≤ 8) ∧ x.n < 0)) = decide ((x.n < 0 ∧ ¬ x.op = 1) ∨ 8 < x.args.length) from decide_eq_decide.2 (by omega)]

def endsB (op : Int) : Bool := decide (op = 11 ∨ op = 12 ∨ op = 13)
/-- To how many blocks one goes behind instructions. -/
def toN (code : List Ins) : Nat := match code.getLast? with
  | some x => if x.op = 12 then 2 else if x.op = 13 then 0 else 1
  | none => 1
def codeB (regs : Int) (code : List Ins) : Bool := zall code fun x i => insB regs x && !(endsB x.op && decide (i + 1 < code.length))
def argsB (regs : Int) (l : List Int) : Bool := zall l fun r _ => within r regs
def phiB (regs : Int) (n : Nat) (p : PhiV) : Bool := within p.r regs && (decide (p.args.length = n) && argsB regs p.args)
def blkB (regs : Int) (b : BlkV) : Bool := codeB regs b.code && (decide (b.to.length = toN b.code) && zall b.phis fun p _ => phiB regs b.fro.length p)
/-- The blocks from which one comes. -/
def fromsL (l : List BlkV) (n : Nat) : List Int := (l.zipIdx.filter fun x => decide ((n : Int) ∈ x.1.to)).map fun x => (x.2 : Int)
def tosB (l : List BlkV) : Bool := zall l fun b _ => argsB l.length b.to
def noFro (l : List BlkV) : Bool := match l with
  | b :: _ => b.fro.isEmpty
  | [] => true
def noPhi (l : List BlkV) : Bool := match l with
  | b :: _ => b.phis.isEmpty
  | [] => true
def frosB (l : List BlkV) : Bool := tosB l && ((zall l fun b n => decide (b.fro = fromsL l n)) && noFro l)
/-- Whether a way over blocks without instructions leads back. -/
def circ (l : List BlkV) (n : Int) : Nat → Int → Bool
  | 0, _ => false
  | k + 1, at_ => match l[at_.toNat]? with
    | some b => match b.code with
      | [] => match b.to with
        | t :: _ => if t = n then true else circ l n k t
        | [] => false
      | _ :: _ => false
    | none => false
def headB (g : GrV) : Bool := decide (0 ≤ g.params ∧ g.params ≤ 8 ∧ ¬ (g.thread = true ∧ 0 < g.params) ∧ g.params ≤ g.regs ∧ g.regs ≤ 65536 ∧ 1 ≤ g.blocks.length ∧ g.blocks.length ≤ 32768)
/-- Whether a graph may be. -/
def mayG (g : GrV) : Bool := headB g && (noPhi g.blocks && ((zall g.blocks fun b _ => blkB g.regs b) && (frosB g.blocks && zall g.blocks fun _ k => !circ g.blocks k g.blocks.length k)))
/-- As the reference asks it. -/
def refBlk (l : List BlkV) (regs : Int) (b : BlkV) (n : Nat) : Bool := codeB regs b.code && (decide (b.to.length = toN b.code) && (argsB l.length b.to && zall b.phis fun p _ => !decide (n = 0) && phiB regs b.fro.length p))
def refG (g : GrV) : Bool := headB g && ((zall g.blocks fun b n => refBlk g.blocks g.regs b n) && (noFro g.blocks && zall g.blocks fun b k => decide (b.fro = fromsL g.blocks k) && !circ g.blocks k g.blocks.length k))
theorem refG_eq (g : GrV) : refG g = mayG g := by
  have key : (zall g.blocks fun b n => refBlk g.blocks g.regs b n) = (noPhi g.blocks && ((zall g.blocks fun b _ => blkB g.regs b) && tosB g.blocks)) := by
    rw [Bool.eq_iff_iff, Bool.and_eq_true, Bool.and_eq_true, tosB, zall_iff, zall_iff, zall_iff]
    constructor
    · intro h
      refine ⟨?_, fun i hi => ?_, fun i hi => ?_⟩
      · unfold noPhi
        cases hb : g.blocks with
        | nil => rfl
        | cons b r =>
          have h0 := h 0 (by rw [hb]; simp)
          simp only [hb, List.getElem_cons_zero, refBlk, Bool.and_eq_true, zall_iff] at h0
          cases hp : b.phis with
          | nil => show b.phis.isEmpty = true; rw [hp]; rfl
          | cons p q => have := h0.2.2.2 0 (by rw [hp]; simp); simp at this
      · have := h i hi
        simp only [refBlk, blkB, Bool.and_eq_true, zall_iff] at this ⊢
        exact ⟨this.1, this.2.1, fun j hj => (this.2.2.2 j hj).2⟩
      · have := h i hi
        simp only [refBlk, Bool.and_eq_true] at this
        exact this.2.2.1
    · rintro ⟨h1, h2, h3⟩ i hi
      have a := h2 i hi
      simp only [refBlk, blkB, Bool.and_eq_true, zall_iff] at a ⊢
      refine ⟨a.1, a.2.1, h3 i hi, fun j hj => ⟨?_, a.2.2 j hj⟩⟩
      by_cases h0 : i = 0
      · subst h0
        unfold noPhi at h1
        cases hb : g.blocks with
        | nil => rw [hb] at hi; simp at hi
        | cons b r =>
          simp only [hb] at h1
          simp only [hb, List.getElem_cons_zero] at hj
          have : b.phis = [] := by simpa using h1
          rw [this] at hj; simp at hj
      · simp [h0]
  unfold refG mayG frosB
  rw [key, zall_and]
  generalize headB g = a1
  generalize noPhi g.blocks = a2
  generalize (zall g.blocks fun b _ => blkB g.regs b) = a3
  generalize tosB g.blocks = a4
  generalize noFro g.blocks = a5
  generalize (zall g.blocks fun b n => decide (b.fro = fromsL g.blocks n)) = a6
  generalize (zall g.blocks fun _ k => !circ g.blocks k g.blocks.length k) = a7
  cases a1 <;> cases a2 <;> cases a3 <;> cases a4 <;> cases a5 <;> cases a6 <;> cases a7 <;> rfl

def samePhi (x y : PhiV) : Bool := decide (x.r = y.r) && decide (x.args = y.args)
def sameBlk (x y : BlkV) : Bool := eqvL samePhi x.phis y.phis && (eqvL sameIns x.code y.code && (decide (x.fro = y.fro) && decide (x.to = y.to)))
def sameGr (x y : GrV) : Bool := decide (x.name = y.name ∧ x.thread = y.thread ∧ x.params = y.params ∧ x.regs = y.regs) && eqvL sameBlk x.blocks y.blocks
def sameFrm (x y : FrmV) : Bool := eqvL memE x.mems y.mems && (eqvL strE x.locks y.locks && eqvL sameGr x.funs y.funs)

def jmp1 : Ins := ⟨11, 0, 0, 0, 0, .nil, 0, []⟩
def bareG (g : GrV) (regs : Int) : FunV := ⟨g.name, g.thread, g.params, regs, .exact, [jmp1]⟩
/-- The program without instructions of its own. -/
def bareF (f : FrmV) : PrgV := ⟨f.mmk, f.lk, if f.funs = [] then .nil else .any, f.mems, f.locks, f.funs.map fun g => bareG g g.params⟩
/-- Whether a program of blocks may be. -/
def formB (f : FrmV) : Bool := prgB (bareF f) && zall f.funs fun g _ => mayG g && zall g.blocks fun b _ => zall b.code fun x _ => mayB (bareF f) (bareG g g.regs) x
/-- The program, with the registers of the first ones put right. -/
def bareTo (f : FrmV) (n : Nat) : PrgV := {bareF f with funs := (f.funs.zipIdx).map fun x => bareG x.1 (if x.2 < n then x.1.regs else x.1.params)}
theorem bareTo_may (f : FrmV) (n : Nat) (g : FunV) (x : Ins) : mayB (bareTo f n) g x = mayB (bareF f) g x := mayB_congr rfl rfl (by
  simp only [bareTo, bareF, List.map_map]
  refine List.ext_getElem (by simp) fun i h1 h2 => ?_
  simp [bareG]) rfl rfl
end Go.Proofs.YtcoepjbipbihfaaGreatDoor
