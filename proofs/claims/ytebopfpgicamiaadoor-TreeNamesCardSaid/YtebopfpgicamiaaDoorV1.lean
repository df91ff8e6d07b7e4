/- tree: expressions, statements, declarations, as values; how large they are. -/
import Derived.Test.YtebopfpgicamiaaDoorM5
import Derived.Test.YtebopfpgicamiaaDoorM6
namespace Go.Proofs.YtebopfpgicamiaaDoor
set_option linter.unusedSimpArgs false
set_option linter.unusedVariables false
open Go Go.Fw

/-- An expression. -/
inductive ExprV where
  | mk (kind : Int) (name : ByteArray) (n : Int) (k : SK) (args : List ExprV) (pos : Int)
/-- A statement. -/
inductive StmtV where
  | mk (kind : Int) (name to : ByteArray) (new : Bool) (ke : SK) (e : List ExprV) (kb : SK) (body : List StmtV) (kl : SK) (els : List StmtV) (pos : Int)
/-- A declaration. -/
structure DeclV where
  kind : Int
  name : ByteArray
  n : Int
  kp : SK
  params : List ByteArray
  kb : SK
  body : List StmtV
  pos : Int

def ExprV.kind : ExprV → Int | .mk kind _ _ _ _ _ => kind
def ExprV.name : ExprV → ByteArray | .mk _ name _ _ _ _ => name
def ExprV.n : ExprV → Int | .mk _ _ n _ _ _ => n
def ExprV.k : ExprV → SK | .mk _ _ _ k _ _ => k
def ExprV.args : ExprV → List ExprV | .mk _ _ _ _ args _ => args
def ExprV.pos : ExprV → Int | .mk _ _ _ _ _ pos => pos
def StmtV.kind : StmtV → Int | .mk kind _ _ _ _ _ _ _ _ _ _ => kind
def StmtV.name : StmtV → ByteArray | .mk _ name _ _ _ _ _ _ _ _ _ => name
def StmtV.to : StmtV → ByteArray | .mk _ _ to _ _ _ _ _ _ _ _ => to
def StmtV.new : StmtV → Bool | .mk _ _ _ new _ _ _ _ _ _ _ => new
def StmtV.ke : StmtV → SK | .mk _ _ _ _ ke _ _ _ _ _ _ => ke
def StmtV.e : StmtV → List ExprV | .mk _ _ _ _ _ e _ _ _ _ _ => e
def StmtV.kb : StmtV → SK | .mk _ _ _ _ _ _ kb _ _ _ _ => kb
def StmtV.body : StmtV → List StmtV | .mk _ _ _ _ _ _ _ body _ _ _ => body
def StmtV.kl : StmtV → SK | .mk _ _ _ _ _ _ _ _ kl _ _ => kl
def StmtV.els : StmtV → List StmtV | .mk _ _ _ _ _ _ _ _ _ els _ => els
def StmtV.pos : StmtV → Int | .mk _ _ _ _ _ _ _ _ _ _ pos => pos

mutual
def ExprV.cells : ExprV → List AV
  | .mk kind name n k args pos => [u8 kind, str name, i64 n, .sl k 5 (exprCells args), i64 pos]
def exprCells : List ExprV → List (List AV)
  | [] => []
  | e :: l => e.cells :: exprCells l
end
mutual
def StmtV.cells : StmtV → List AV
  | .mk kind name to new ke e kb body kl els pos => [u8 kind, str name, str to, bl new, .sl ke 5 (exprCells e), .sl kb 8 (stmtCells body), .sl kl 8 (stmtCells els), i64 pos]
def stmtCells : List StmtV → List (List AV)
  | [] => []
  | s :: l => s.cells :: stmtCells l
end
def strCells (l : List ByteArray) : List (List AV) := l.map fun s => [str s]
def DeclV.cells (d : DeclV) : List AV := [u8 d.kind, str d.name, i64 d.n, .sl d.kp 1 (strCells d.params), .sl d.kb 8 (stmtCells d.body), i64 d.pos]
def declCells (l : List DeclV) : List (List AV) := l.map DeclV.cells

theorem ExprV.cells_eq (e : ExprV) : e.cells = [u8 e.kind, str e.name, i64 e.n, .sl e.k 5 (exprCells e.args), i64 e.pos] := by cases e; rfl
theorem StmtV.cells_eq (s : StmtV) : s.cells = [u8 s.kind, str s.name, str s.to, bl s.new, .sl s.ke 5 (exprCells s.e), .sl s.kb 8 (stmtCells s.body), .sl s.kl 8 (stmtCells s.els), i64 s.pos] := by cases s; rfl
theorem exprCells_map (l : List ExprV) : exprCells l = l.map ExprV.cells := by
  induction l with
  | nil => rfl
  | cons e l ih => rw [exprCells, ih, List.map_cons]
theorem stmtCells_map (l : List StmtV) : stmtCells l = l.map StmtV.cells := by
  induction l with
  | nil => rfl
  | cons e l ih => rw [stmtCells, ih, List.map_cons]
theorem exprCells_len (l : List ExprV) : (exprCells l).length = l.length := by simp [exprCells_map]
theorem stmtCells_len (l : List StmtV) : (stmtCells l).length = l.length := by simp [stmtCells_map]
theorem declCells_len (l : List DeclV) : (declCells l).length = l.length := by simp [declCells]
theorem strCells_len (l : List ByteArray) : (strCells l).length = l.length := by simp [strCells]
theorem exprCells_sz (l : List ExprV) : ∀ x ∈ exprCells l, x.length = 5 := fun x hx => by
  rw [exprCells_map, List.mem_map] at hx
  obtain ⟨e, _, rfl⟩ := hx
  rw [e.cells_eq]; rfl
theorem stmtCells_sz (l : List StmtV) : ∀ x ∈ stmtCells l, x.length = 8 := fun x hx => by
  rw [stmtCells_map, List.mem_map] at hx
  obtain ⟨e, _, rfl⟩ := hx
  rw [e.cells_eq]; rfl
theorem declCells_sz (l : List DeclV) : ∀ x ∈ declCells l, x.length = 6 := fun x hx => by
  rw [declCells, List.mem_map] at hx
  obtain ⟨e, _, rfl⟩ := hx
  rfl
theorem strCells_sz (l : List ByteArray) : ∀ x ∈ strCells l, x.length = 1 := fun x hx => by
  rw [strCells, List.mem_map] at hx
  obtain ⟨e, _, rfl⟩ := hx
  rfl
theorem exprCells_at {l : List ExprV} {i : Nat} {e : ExprV} (h : l[i]? = some e) : (exprCells l)[i]? = some e.cells := by simp [exprCells_map, h]
theorem stmtCells_at {l : List StmtV} {i : Nat} {e : StmtV} (h : l[i]? = some e) : (stmtCells l)[i]? = some e.cells := by simp [stmtCells_map, h]
theorem declCells_at {l : List DeclV} {i : Nat} {e : DeclV} (h : l[i]? = some e) : (declCells l)[i]? = some e.cells := by simp [declCells, h]
theorem strCells_get {l : List ByteArray} {i : Nat} {e : ByteArray} (h : l[i]? = some e) : (strCells l)[i]? = some [str e] := by simp [strCells, h]
theorem exprCells_app (a b : List ExprV) : exprCells (a ++ b) = exprCells a ++ exprCells b := by simp [exprCells_map]
theorem stmtCells_app (a b : List StmtV) : stmtCells (a ++ b) = stmtCells a ++ stmtCells b := by simp [stmtCells_map]
theorem declCells_app (a b : List DeclV) : declCells (a ++ b) = declCells a ++ declCells b := by simp [declCells]

mutual
/-- How large. -/
def ExprV.sz : ExprV → Nat
  | .mk _ name _ _ args _ => 1 + name.size + exprSz args
def exprSz : List ExprV → Nat
  | [] => 0
  | e :: l => e.sz + exprSz l
end
mutual
def StmtV.sz : StmtV → Nat
  | .mk _ name to _ _ e _ body _ els _ => 1 + name.size + to.size + exprSz e + stmtSz body + stmtSz els
def stmtSz : List StmtV → Nat
  | [] => 0
  | s :: l => s.sz + stmtSz l
end
def strSz : List ByteArray → Nat
  | [] => 0
  | s :: l => 1 + s.size + strSz l
def DeclV.sz (d : DeclV) : Nat := 1 + d.name.size + strSz d.params + stmtSz d.body
def declSz : List DeclV → Nat
  | [] => 0
  | d :: l => d.sz + declSz l

theorem ExprV.sz_eq (e : ExprV) : e.sz = 1 + e.name.size + exprSz e.args := by cases e; rfl
theorem StmtV.sz_eq (s : StmtV) : s.sz = 1 + s.name.size + s.to.size + exprSz s.e + stmtSz s.body + stmtSz s.els := by cases s; rfl
theorem exprSz_mem : ∀ {l : List ExprV} {e : ExprV}, e ∈ l → e.sz ≤ exprSz l
  | [], _, h => by simp at h
  | x :: l, e, h => by
    rw [exprSz]
    rcases List.mem_cons.1 h with rfl | h
    · omega
    · have := exprSz_mem h; omega
theorem stmtSz_mem : ∀ {l : List StmtV} {e : StmtV}, e ∈ l → e.sz ≤ stmtSz l
  | [], _, h => by simp at h
  | x :: l, e, h => by
    rw [stmtSz]
    rcases List.mem_cons.1 h with rfl | h
    · omega
    · have := stmtSz_mem h; omega
theorem declSz_mem : ∀ {l : List DeclV} {e : DeclV}, e ∈ l → e.sz ≤ declSz l
  | [], _, h => by simp at h
  | x :: l, e, h => by
    rw [declSz]
    rcases List.mem_cons.1 h with rfl | h
    · omega
    · have := declSz_mem h; omega
theorem strSz_mem : ∀ {l : List ByteArray} {e : ByteArray}, e ∈ l → 1 + e.size ≤ strSz l
  | [], _, h => by simp at h
  | x :: l, e, h => by
    rw [strSz]
    rcases List.mem_cons.1 h with rfl | h
    · omega
    · have := strSz_mem h; omega
theorem exprSz_len : ∀ l : List ExprV, l.length ≤ exprSz l
  | [] => by simp [exprSz]
  | x :: l => by have := exprSz_len l; rw [exprSz, x.sz_eq, List.length_cons]; omega
theorem stmtSz_len : ∀ l : List StmtV, l.length ≤ stmtSz l
  | [] => by simp [stmtSz]
  | x :: l => by have := stmtSz_len l; rw [stmtSz, x.sz_eq, List.length_cons]; omega
theorem declSz_len : ∀ l : List DeclV, l.length ≤ declSz l
  | [] => by simp [declSz]
  | x :: l => by have := declSz_len l; rw [declSz, DeclV.sz, List.length_cons]; omega
theorem strSz_len : ∀ l : List ByteArray, l.length ≤ strSz l
  | [] => by simp [strSz]
  | x :: l => by have := strSz_len l; rw [strSz, List.length_cons]; omega
theorem exprSz_app (a b : List ExprV) : exprSz (a ++ b) = exprSz a + exprSz b := by
  induction a with
  | nil => simp [exprSz]
  | cons x a ih => rw [List.cons_append, exprSz, exprSz, ih]; omega
theorem stmtSz_app (a b : List StmtV) : stmtSz (a ++ b) = stmtSz a + stmtSz b := by
  induction a with
  | nil => simp [stmtSz]
  | cons x a ih => rw [List.cons_append, stmtSz, stmtSz, ih]; omega
theorem declSz_app (a b : List DeclV) : declSz (a ++ b) = declSz a + declSz b := by
  induction a with
  | nil => simp [declSz]
  | cons x a ih => rw [List.cons_append, declSz, declSz, ih]; omega

/-- Induction over expressions. -/
theorem ExprV.ind {M : ExprV → Prop} (h : ∀ e : ExprV, (∀ x ∈ e.args, M x) → M e) (e : ExprV) : M e := by
  have key : ∀ (n : Nat) (e : ExprV), e.sz ≤ n → M e := fun n => by
    induction n with
    | zero => intro e he; rw [e.sz_eq] at he; omega
    | succ n ih =>
      intro e he
      refine h e fun x hx => ih x ?_
      have := exprSz_mem hx
      rw [e.sz_eq] at he
      omega
  exact key e.sz e (Nat.le_refl _)
theorem StmtV.ind {M : StmtV → Prop} (h : ∀ s : StmtV, (∀ x ∈ s.body, M x) → (∀ x ∈ s.els, M x) → M s) (s : StmtV) : M s := by
  have key : ∀ (n : Nat) (e : StmtV), e.sz ≤ n → M e := fun n => by
    induction n with
    | zero => intro e he; rw [e.sz_eq] at he; omega
    | succ n ih =>
      intro e he
      refine h e (fun x hx => ih x ?_) (fun x hx => ih x ?_)
      · have := stmtSz_mem hx
        rw [e.sz_eq] at he
        omega
      · have := stmtSz_mem hx
        rw [e.sz_eq] at he
        omega
  exact key s.sz s (Nat.le_refl _)

mutual
/-- The numbers are numbers of their kinds. -/
def ExprV.Ok : ExprV → Prop
  | .mk kind _ n _ args pos => 0 ≤ kind ∧ kind ≤ 255 ∧ -9223372036854775808 ≤ n ∧ n < 9223372036854775808 ∧ -9223372036854775808 ≤ pos ∧ pos < 9223372036854775808 ∧ exprsOk args
def exprsOk : List ExprV → Prop
  | [] => True
  | e :: l => e.Ok ∧ exprsOk l
end
mutual
def StmtV.Ok : StmtV → Prop
  | .mk kind _ _ _ _ e _ body _ els pos => 0 ≤ kind ∧ kind ≤ 255 ∧ -9223372036854775808 ≤ pos ∧ pos < 9223372036854775808 ∧ exprsOk e ∧ stmtsOk body ∧ stmtsOk els
def stmtsOk : List StmtV → Prop
  | [] => True
  | s :: l => s.Ok ∧ stmtsOk l
end
structure DeclV.Ok (d : DeclV) : Prop where
  k0 : 0 ≤ d.kind
  k1 : d.kind ≤ 255
  n0 : -9223372036854775808 ≤ d.n
  n1 : d.n < 9223372036854775808
  body : stmtsOk d.body
theorem exprsOk_iff (l : List ExprV) : exprsOk l ↔ ∀ e ∈ l, e.Ok := by
  induction l with
  | nil => simp [exprsOk]
  | cons e l ih => rw [exprsOk, ih]; simp
theorem stmtsOk_iff (l : List StmtV) : stmtsOk l ↔ ∀ e ∈ l, e.Ok := by
  induction l with
  | nil => simp [stmtsOk]
  | cons e l ih => rw [stmtsOk, ih]; simp
theorem ExprV.Ok.eq {e : ExprV} (h : e.Ok) : (0 ≤ e.kind ∧ e.kind ≤ 255) ∧ (-9223372036854775808 ≤ e.n ∧ e.n < 9223372036854775808) ∧ ∀ x ∈ e.args, x.Ok := by
  obtain ⟨kind, name, n, k, args, pos⟩ := e
  obtain ⟨a, b, c, d, _, _, f⟩ := h
  exact ⟨⟨a, b⟩, ⟨c, d⟩, (exprsOk_iff _).1 f⟩
theorem StmtV.Ok.eq {s : StmtV} (h : s.Ok) : (0 ≤ s.kind ∧ s.kind ≤ 255) ∧ (∀ x ∈ s.e, x.Ok) ∧ (∀ x ∈ s.body, x.Ok) ∧ ∀ x ∈ s.els, x.Ok := by
  obtain ⟨kind, name, to, new, ke, e, kb, body, kl, els, pos⟩ := s
  obtain ⟨a, b, _, _, c, d, f⟩ := h
  exact ⟨⟨a, b⟩, (exprsOk_iff _).1 c, (stmtsOk_iff _).1 d, (stmtsOk_iff _).1 f⟩
end Go.Proofs.YtebopfpgicamiaaDoor
