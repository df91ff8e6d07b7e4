/- tree: what may be, how deep, how large, what is the same: without the program. -/
import Derived.Test.YtebopfpgicamiaaDoorV1
namespace Go.Proofs.YtebopfpgicamiaaDoor
set_option linter.unusedSimpArgs false
set_option linter.unusedVariables false
open Go Go.Fw

/-- What a kind of expression has: how many arguments, a name, its number's most. -/
structure EShape where
  args : Int
  named : Bool
  most : Int
def ezero : EShape := ⟨0, false, 0⟩
def exprTab : List EShape := [ezero, ⟨0, false, 9223372036854775807⟩, ⟨0, false, 1⟩, ⟨0, true, 0⟩, ⟨1, true, 0⟩, ⟨1, false, 0⟩, ⟨1, false, 0⟩, ⟨2, false, 0⟩, ⟨2, false, 0⟩, ⟨2, false, 0⟩, ⟨2, false, 0⟩, ⟨2, false, 0⟩, ⟨2, false, 0⟩, ⟨2, false, 0⟩, ⟨2, false, 0⟩, ⟨2, false, 0⟩, ⟨2, false, 0⟩, ⟨2, false, 0⟩]
/-- What a kind of statement has. -/
structure SShape where
  named : Bool
  e : Int
  body : Bool
  els : Bool
def szero : SShape := ⟨false, 0, false, false⟩
def stmtTab : List SShape := [szero, ⟨true, 1, false, false⟩, ⟨true, 1, false, false⟩, ⟨true, 2, false, false⟩, ⟨false, 1, true, true⟩, ⟨false, 1, true, false⟩, ⟨true, 0, true, false⟩, ⟨false, 1, false, false⟩, ⟨true, -1, false, false⟩, ⟨false, 1, false, false⟩]
def EShape.cells (w : EShape) : List AV := [i64 w.args, bl w.named, i64 w.most]
def SShape.cells (w : SShape) : List AV := [bl w.named, i64 w.e, bl w.body, bl w.els]
def eRow (kind : Int) : EShape := exprTab.getD kind.toNat ezero
def sRow (kind : Int) : SShape := stmtTab.getD kind.toNat szero

def cutL : List UInt8 := [97, 98, 99, 100, 101, 102, 103, 104, 105, 106, 107, 108, 109, 110, 111, 112, 113, 114, 115, 116, 117, 118, 119, 120, 121, 122, 65, 66, 67, 68, 69, 70, 71, 72, 73, 74, 75, 76, 77, 78, 79, 80, 81, 82, 83, 84, 85, 86, 87, 88, 89, 90, 95, 48, 49, 50, 51, 52, 53, 54, 55, 56, 57]
/-- The words of the language. -/
def resWords : List ByteArray := [⟨#[103, 108, 111, 98, 97, 108]⟩, ⟨#[97, 114, 114, 97, 121]⟩, ⟨#[108, 111, 99, 107]⟩, ⟨#[102, 117, 110, 99]⟩, ⟨#[116, 104, 114, 101, 97, 100]⟩, ⟨#[118, 97, 114]⟩, ⟨#[105, 102]⟩, ⟨#[101, 108, 115, 101]⟩, ⟨#[119, 104, 105, 108, 101]⟩, ⟨#[119, 105, 116, 104]⟩, ⟨#[112, 114, 105, 110, 116]⟩, ⟨#[99, 97, 108, 108]⟩, ⟨#[114, 101, 116, 117, 114, 110]⟩, ⟨#[116, 114, 117, 101]⟩, ⟨#[102, 97, 108, 115, 101]⟩]
def resCells : List AV := resWords.map str
def digitB (b : UInt8) : Bool := decide (48 ≤ b.toNat ∧ b.toNat ≤ 57)
def dig0 (s : ByteArray) : Bool := match s.data.toList with
  | b :: _ => digitB b
  | [] => false
instance decMem (s : ByteArray) (l : List ByteArray) : Decidable (s ∈ l) := decidable_of_iff (l.any (fun x => decide (x = s)) = true) (by simp)
/-- Is a text a name? -/
def nameB (s : ByteArray) : Bool := decide (s.size ≠ 0 ∧ s.size ≤ 32 ∧ s ∉ resWords) && (!dig0 s && s.data.toList.all fun b => cutL.contains b)
def noStr : ByteArray := ⟨#[]⟩
def someB (s : ByteArray) (named : Bool) : Bool := if named = true then nameB s else decide (s = noStr)

mutual
def mayE : ExprV → Bool
  | .mk kind name n _ args _ => decide (1 ≤ kind ∧ kind < 18) && (decide ((args.length : Int) = (eRow kind).args) && (decide (0 ≤ n ∧ n ≤ (eRow kind).most) && (someB name (eRow kind).named && mayEs args)))
def mayEs : List ExprV → Bool
  | [] => true
  | e :: l => mayE e && mayEs l
end
def headS (kind : Int) (name to : ByteArray) (new : Bool) (ne nb nl : Nat) : Bool :=
  decide (1 ≤ kind ∧ kind < 10) && (decide (¬ (0 ≤ (sRow kind).e ∧ (ne : Int) ≠ (sRow kind).e) ∧ ne ≤ 8) && (someB name (sRow kind).named && ((if to = noStr then !new else decide (kind = 8) && nameB to) && (((sRow kind).body || decide (nb = 0)) && ((sRow kind).els || decide (nl = 0))))))
mutual
def mayS : StmtV → Bool
  | .mk kind name to new _ e _ body _ els _ => headS kind name to new e.length body.length els.length && (mayEs e && (maySs body && maySs els))
def maySs : List StmtV → Bool
  | [] => true
  | s :: l => mayS s && maySs l
end
def declB (d : DeclV) : Bool := nameB d.name && (decide (d.params.length ≤ 8) && (d.params.all nameB && (maySs d.body &&
  (if d.kind = 1 then decide (d.params.length = 0 ∧ d.body.length = 0) else if d.kind = 2 then decide (d.params.length = 0 ∧ d.body.length = 0 ∧ 1 ≤ d.n ∧ d.n ≤ 1024) else if d.kind = 3 then decide (d.params.length = 0 ∧ d.body.length = 0 ∧ d.n = 0)
   else if d.kind = 4 then decide (d.n = 0) else if d.kind = 5 then decide (d.n = 0 ∧ d.params.length = 0) else false))))

mutual
def depE : ExprV → Nat
  | .mk _ _ _ _ args _ => 1 + depEs args
def depEs : List ExprV → Nat
  | [] => 0
  | e :: l => max (depE e) (depEs l)
end
mutual
def depS : StmtV → Nat
  | .mk _ _ _ _ _ e _ body _ els _ => 1 + max (depEs e) (max (depSs body) (depSs els))
def depSs : List StmtV → Nat
  | [] => 0
  | s :: l => max (depS s) (depSs l)
end
def depP : List DeclV → Nat
  | [] => 0
  | d :: l => max (depSs d.body) (depP l)
mutual
def cntE : ExprV → Nat
  | .mk _ _ _ _ args _ => 1 + cntEs args
def cntEs : List ExprV → Nat
  | [] => 0
  | e :: l => cntE e + cntEs l
end
mutual
def cntS : StmtV → Nat
  | .mk _ _ _ _ _ e _ body _ els _ => 1 + (cntEs e + (cntSs body + cntSs els))
def cntSs : List StmtV → Nat
  | [] => 0
  | s :: l => cntS s + cntSs l
end
def cntP : List DeclV → Nat
  | [] => 0
  | d :: l => 1 + cntSs d.body + cntP l
def mayP (l : List DeclV) : Bool := decide (l.length ≤ 256) && (l.all declB && decide (depP l ≤ 60))

theorem mayE_eq (e : ExprV) : mayE e = (decide (1 ≤ e.kind ∧ e.kind < 18) && (decide ((e.args.length : Int) = (eRow e.kind).args) && (decide (0 ≤ e.n ∧ e.n ≤ (eRow e.kind).most) && (someB e.name (eRow e.kind).named && mayEs e.args)))) := by cases e; rfl
theorem mayS_eq (s : StmtV) : mayS s = (headS s.kind s.name s.to s.new s.e.length s.body.length s.els.length && (mayEs s.e && (maySs s.body && maySs s.els))) := by cases s; rfl
theorem mayEs_all (l : List ExprV) : mayEs l = l.all mayE := by
  induction l with
  | nil => rfl
  | cons e l ih => rw [mayEs, ih, List.all_cons]
theorem maySs_all (l : List StmtV) : maySs l = l.all mayS := by
  induction l with
  | nil => rfl
  | cons e l ih => rw [maySs, ih, List.all_cons]
theorem depE_eq (e : ExprV) : depE e = 1 + depEs e.args := by cases e; rfl
theorem depS_eq (s : StmtV) : depS s = 1 + max (depEs s.e) (max (depSs s.body) (depSs s.els)) := by cases s; rfl
theorem cntE_eq (e : ExprV) : cntE e = 1 + cntEs e.args := by cases e; rfl
theorem cntS_eq (s : StmtV) : cntS s = 1 + (cntEs s.e + (cntSs s.body + cntSs s.els)) := by cases s; rfl
theorem depEs_app (a b : List ExprV) : depEs (a ++ b) = max (depEs a) (depEs b) := by
  induction a with
  | nil => simp [depEs]
  | cons e a ih => rw [List.cons_append, depEs, depEs, ih]; omega
theorem depSs_app (a b : List StmtV) : depSs (a ++ b) = max (depSs a) (depSs b) := by
  induction a with
  | nil => simp [depSs]
  | cons e a ih => rw [List.cons_append, depSs, depSs, ih]; omega
theorem depP_app (a b : List DeclV) : depP (a ++ b) = max (depP a) (depP b) := by
  induction a with
  | nil => simp [depP]
  | cons e a ih => rw [List.cons_append, depP, depP, ih]; omega
theorem cntEs_app (a b : List ExprV) : cntEs (a ++ b) = cntEs a + cntEs b := by
  induction a with
  | nil => simp [cntEs]
  | cons e a ih => rw [List.cons_append, cntEs, cntEs, ih]; omega
theorem cntSs_app (a b : List StmtV) : cntSs (a ++ b) = cntSs a + cntSs b := by
  induction a with
  | nil => simp [cntSs]
  | cons e a ih => rw [List.cons_append, cntSs, cntSs, ih]; omega
theorem cntP_app (a b : List DeclV) : cntP (a ++ b) = cntP a + cntP b := by
  induction a with
  | nil => simp [cntP]
  | cons e a ih => rw [List.cons_append, cntP, cntP, ih]; omega
theorem cntEs_le : ∀ l : List ExprV, cntEs l ≤ exprSz l := by
  have h : ∀ e : ExprV, cntE e ≤ e.sz := fun e => by
    induction e using ExprV.ind with
    | h e ih =>
      rw [cntE_eq, e.sz_eq]
      have : ∀ l : List ExprV, (∀ x ∈ l, cntE x ≤ x.sz) → cntEs l ≤ exprSz l := fun l => by
        induction l with
        | nil => intro _; simp [cntEs]
        | cons x l ih => intro h; rw [cntEs, exprSz]; have := h x (by simp); have := ih fun y hy => h y (by simp [hy]); omega
      have := this e.args ih
      omega
  intro l
  induction l with
  | nil => simp [cntEs]
  | cons x l ih => rw [cntEs, exprSz]; have := h x; omega
theorem cntSs_le : ∀ l : List StmtV, cntSs l ≤ stmtSz l := by
  have h : ∀ e : StmtV, cntS e ≤ e.sz := fun e => by
    induction e using StmtV.ind with
    | h e ih1 ih2 =>
      rw [cntS_eq, e.sz_eq]
      have : ∀ l : List StmtV, (∀ x ∈ l, cntS x ≤ x.sz) → cntSs l ≤ stmtSz l := fun l => by
        induction l with
        | nil => intro _; simp [cntSs]
        | cons x l ih => intro h; rw [cntSs, stmtSz]; have := h x (by simp); have := ih fun y hy => h y (by simp [hy]); omega
      have h1 := this e.body ih1
      have h2 := this e.els ih2
      have h3 := cntEs_le e.e
      omega
  intro l
  induction l with
  | nil => simp [cntSs]
  | cons x l ih => rw [cntSs, stmtSz]; have := h x; omega
theorem cntP_le : ∀ l : List DeclV, cntP l ≤ declSz l
  | [] => by simp [cntP]
  | d :: l => by rw [cntP, declSz, DeclV.sz]; have := cntP_le l; have := cntSs_le d.body; omega
theorem depEs_le : ∀ l : List ExprV, depEs l ≤ cntEs l := by
  have h : ∀ e : ExprV, depE e ≤ cntE e := fun e => by
    induction e using ExprV.ind with
    | h e ih =>
      rw [depE_eq, cntE_eq]
      have : ∀ l : List ExprV, (∀ x ∈ l, depE x ≤ cntE x) → depEs l ≤ cntEs l := fun l => by
        induction l with
        | nil => intro _; simp [depEs]
        | cons x l ih => intro h; rw [cntEs, depEs]; have := h x (by simp); have := ih fun y hy => h y (by simp [hy]); omega
      have := this e.args ih
      omega
  intro l
  induction l with
  | nil => simp [depEs]
  | cons x l ih => rw [cntEs, depEs]; have := h x; omega
theorem depSs_le : ∀ l : List StmtV, depSs l ≤ cntSs l := by
  have h : ∀ e : StmtV, depS e ≤ cntS e := fun e => by
    induction e using StmtV.ind with
    | h e ih1 ih2 =>
      rw [cntS_eq, depS_eq]
      have : ∀ l : List StmtV, (∀ x ∈ l, depS x ≤ cntS x) → depSs l ≤ cntSs l := fun l => by
        induction l with
        | nil => intro _; simp [depSs]
        | cons x l ih => intro h; rw [cntSs, depSs]; have := h x (by simp); have := ih fun y hy => h y (by simp [hy]); omega
      have h1 := this e.body ih1
      have h2 := this e.els ih2
      have h3 := depEs_le e.e
      omega
  intro l
  induction l with
  | nil => simp [depSs]
  | cons x l ih => rw [cntSs, depSs]; have := h x; omega
theorem depP_le : ∀ l : List DeclV, depP l ≤ cntP l
  | [] => by simp [depP]
  | d :: l => by rw [cntP, depP]; have := depP_le l; have := depSs_le d.body; omega

mutual
/-- How deep each part stands. -/
def prtE : ExprV → Nat → List Nat
  | .mk _ _ _ _ args _, d => d :: prtEs args (d + 1)
def prtEs : List ExprV → Nat → List Nat
  | [], _ => []
  | e :: l, d => prtE e d ++ prtEs l d
end
mutual
def prtS : StmtV → Nat → List Nat
  | .mk _ _ _ _ _ e _ body _ els _, d => d :: (prtEs e (d + 1) ++ (prtSs body (d + 1) ++ prtSs els (d + 1)))
def prtSs : List StmtV → Nat → List Nat
  | [], _ => []
  | s :: l, d => prtS s d ++ prtSs l d
end
theorem prtE_eq (e : ExprV) (d : Nat) : prtE e d = d :: prtEs e.args (d + 1) := by cases e; rfl
theorem prtS_eq (s : StmtV) (d : Nat) : prtS s d = d :: (prtEs s.e (d + 1) ++ (prtSs s.body (d + 1) ++ prtSs s.els (d + 1))) := by cases s; rfl
theorem prtEs_app (a b : List ExprV) (d : Nat) : prtEs (a ++ b) d = prtEs a d ++ prtEs b d := by
  induction a with
  | nil => rfl
  | cons e a ih => rw [List.cons_append, prtEs, prtEs, ih, List.append_assoc]
theorem prtSs_app (a b : List StmtV) (d : Nat) : prtSs (a ++ b) d = prtSs a d ++ prtSs b d := by
  induction a with
  | nil => rfl
  | cons e a ih => rw [List.cons_append, prtSs, prtSs, ih, List.append_assoc]
theorem prtE_len (e : ExprV) : ∀ d, (prtE e d).length = cntE e := by
  induction e using ExprV.ind with
  | h e ih =>
    intro d
    have : ∀ l : List ExprV, (∀ x ∈ l, ∀ d, (prtE x d).length = cntE x) → ∀ d, (prtEs l d).length = cntEs l := fun l => by
      induction l with
      | nil => intro _ d; rfl
      | cons x l ih => intro h d; rw [prtEs, cntEs, List.length_append, h x (by simp) d, ih (fun y hy => h y (by simp [hy])) d]
    rw [prtE_eq, cntE_eq, List.length_cons, this e.args ih]; omega
theorem prtEs_len (l : List ExprV) (d : Nat) : (prtEs l d).length = cntEs l := by
  induction l with
  | nil => rfl
  | cons x l ih => rw [prtEs, cntEs, List.length_append, prtE_len, ih]
theorem prtS_len (s : StmtV) : ∀ d, (prtS s d).length = cntS s := by
  induction s using StmtV.ind with
  | h s ih1 ih2 =>
    intro d
    have : ∀ l : List StmtV, (∀ x ∈ l, ∀ d, (prtS x d).length = cntS x) → ∀ d, (prtSs l d).length = cntSs l := fun l => by
      induction l with
      | nil => intro _ d; rfl
      | cons x l ih => intro h d; rw [prtSs, cntSs, List.length_append, h x (by simp) d, ih (fun y hy => h y (by simp [hy])) d]
    rw [prtS_eq, cntS_eq, List.length_cons, List.length_append, List.length_append, prtEs_len, this s.body ih1, this s.els ih2]; omega
theorem prtSs_len (l : List StmtV) (d : Nat) : (prtSs l d).length = cntSs l := by
  induction l with
  | nil => rfl
  | cons x l ih => rw [prtSs, cntSs, List.length_append, prtS_len, ih]
def mxL (l : List Nat) : Nat := l.foldl max 0
theorem foldl_max (l : List Nat) : ∀ m : Nat, l.foldl max m = max m (mxL l) := by
  unfold mxL
  induction l with
  | nil => intro m; simp
  | cons x l ih => intro m; rw [List.foldl_cons, List.foldl_cons, ih, ih (max 0 x)]; omega
theorem mxL_app (a b : List Nat) : mxL (a ++ b) = max (mxL a) (mxL b) := by
  show (a ++ b).foldl max 0 = _
  rw [List.foldl_append, foldl_max b]; rfl
theorem mxL_cons (x : Nat) (l : List Nat) : mxL (x :: l) = max x (mxL l) := by
  show (x :: l).foldl max 0 = _
  rw [List.foldl_cons, foldl_max]; omega
theorem mxE (e : ExprV) : ∀ d, mxL (prtE e (d + 1)) = d + depE e := by
  induction e using ExprV.ind with
  | h e ih =>
    intro d
    have : ∀ l : List ExprV, (∀ x ∈ l, ∀ d, mxL (prtE x (d + 1)) = d + depE x) → ∀ d, max d (mxL (prtEs l (d + 1))) = d + depEs l := fun l => by
      induction l with
      | nil => intro _ d; simp [prtEs, depEs, mxL]
      | cons x l ih =>
        intro h d
        have h1 := h x (by simp) d
        have h2 := ih (fun y hy => h y (by simp [hy])) d
        rw [prtEs, depEs, mxL_app, h1]
        omega
    have := this e.args ih (d + 1)
    rw [prtE_eq, depE_eq, mxL_cons]; omega
theorem mxEs (l : List ExprV) (d : Nat) : max d (mxL (prtEs l (d + 1))) = d + depEs l := by
  induction l with
  | nil => simp [prtEs, depEs, mxL]
  | cons x l ih => rw [prtEs, depEs, mxL_app, mxE]; omega
theorem mxS (s : StmtV) : ∀ d, mxL (prtS s (d + 1)) = d + depS s := by
  induction s using StmtV.ind with
  | h s ih1 ih2 =>
    intro d
    have : ∀ l : List StmtV, (∀ x ∈ l, ∀ d, mxL (prtS x (d + 1)) = d + depS x) → ∀ d, max d (mxL (prtSs l (d + 1))) = d + depSs l := fun l => by
      induction l with
      | nil => intro _ d; simp [prtSs, depSs, mxL]
      | cons x l ih =>
        intro h d
        have h1 := h x (by simp) d
        have h2 := ih (fun y hy => h y (by simp [hy])) d
        rw [prtSs, depSs, mxL_app, h1]
        omega
    have h1 := this s.body ih1 (d + 1)
    have h2 := this s.els ih2 (d + 1)
    have h3 := mxEs s.e (d + 1)
    rw [prtS_eq, depS_eq, mxL_cons, mxL_app, mxL_app]; omega
theorem mxSs (l : List StmtV) : mxL (prtSs l 1) = depSs l := by
  induction l with
  | nil => rfl
  | cons x l ih => have := mxS x 0; rw [prtSs, depSs, mxL_app, this, ih]; omega

mutual
/-- An expression without where it stands. -/
def ExprV.bare : ExprV → ExprV
  | .mk kind name n _ args _ => .mk kind name n .any (bareEs args) 0
def bareEs : List ExprV → List ExprV
  | [] => []
  | e :: l => e.bare :: bareEs l
end
mutual
def StmtV.bare : StmtV → StmtV
  | .mk kind name to new _ e _ body _ els _ => .mk kind name to new .any (bareEs e) .any (bareSs body) .any (bareSs els) 0
def bareSs : List StmtV → List StmtV
  | [] => []
  | s :: l => s.bare :: bareSs l
end
def DeclV.bare (d : DeclV) : DeclV := ⟨d.kind, d.name, d.n, .any, d.params, .any, bareSs d.body, 0⟩
def barePs (l : List DeclV) : List DeclV := l.map DeclV.bare
theorem bareEs_map (l : List ExprV) : bareEs l = l.map ExprV.bare := by
  induction l with
  | nil => rfl
  | cons e l ih => rw [bareEs, ih, List.map_cons]
theorem bareSs_map (l : List StmtV) : bareSs l = l.map StmtV.bare := by
  induction l with
  | nil => rfl
  | cons e l ih => rw [bareSs, ih, List.map_cons]
theorem ExprV.bare_eq (a b : ExprV) : a.bare = b.bare ↔ a.kind = b.kind ∧ a.name = b.name ∧ a.n = b.n ∧ bareEs a.args = bareEs b.args := by
  cases a; cases b
  simp [ExprV.bare, ExprV.kind, ExprV.name, ExprV.n, ExprV.args]
theorem StmtV.bare_eq (a b : StmtV) : a.bare = b.bare ↔ a.kind = b.kind ∧ a.name = b.name ∧ a.to = b.to ∧ a.new = b.new ∧ bareEs a.e = bareEs b.e ∧ bareSs a.body = bareSs b.body ∧ bareSs a.els = bareSs b.els := by
  cases a; cases b
  simp [StmtV.bare, StmtV.kind, StmtV.name, StmtV.to, StmtV.new, StmtV.e, StmtV.body, StmtV.els]
theorem DeclV.bare_eq (a b : DeclV) : a.bare = b.bare ↔ a.kind = b.kind ∧ a.name = b.name ∧ a.n = b.n ∧ a.params = b.params ∧ bareSs a.body = bareSs b.body := by
  cases a; cases b
  simp [DeclV.bare]
open Classical in
noncomputable def sameE (a b : ExprV) : Bool := decide (a.bare = b.bare)
open Classical in
noncomputable def sameEs (a b : List ExprV) : Bool := decide (bareEs a = bareEs b)
open Classical in
noncomputable def sameS (a b : StmtV) : Bool := decide (a.bare = b.bare)
open Classical in
noncomputable def sameSs (a b : List StmtV) : Bool := decide (bareSs a = bareSs b)
open Classical in
noncomputable def sameP (a b : List DeclV) : Bool := decide (barePs a = barePs b)
end Go.Proofs.YtebopfpgicamiaaDoor
