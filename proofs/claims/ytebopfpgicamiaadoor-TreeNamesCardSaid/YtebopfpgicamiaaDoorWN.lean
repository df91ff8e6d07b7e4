/- tree: what the arguments read as, with their bulk. -/
import Derived.Test.YtebopfpgicamiaaDoorWJ
import Derived.Test.YtebopfpgicamiaaDoorM6
namespace Go.Proofs.YtebopfpgicamiaaDoor
set_option linter.unusedSimpArgs false
set_option linter.unusedVariables false
set_option maxRecDepth 100000
open Go Go.Fw
/-- All types that the parameters reach. -/
def argTypes : List TypeId := [22, 25, 40, 36, 38, 23, 35, 9, 5, 2, 3, 4]
theorem lays_int {n : Nat} {t : TypeId} {k : IntKind} {x : List AV} (hu : Tryd.prog.underlying t = some (.int k)) (h : LaysR Tryd.prog n t x) : ∃ m, x = [.lit (.int k m)] ∧ (Lit.int k m).wf = true := by
  cases n with
  | zero => exact h.elim
  | succ n => simpa only [LaysR, hu] using h
theorem lays_bool {n : Nat} {t : TypeId} {x : List AV} (hu : Tryd.prog.underlying t = some .bool) (h : LaysR Tryd.prog n t x) : ∃ b, x = [.lit (.bool b)] := by
  cases n with
  | zero => exact h.elim
  | succ n => simpa only [LaysR, hu] using h
theorem lays_str {n : Nat} {t : TypeId} {x : List AV} (hu : Tryd.prog.underlying t = some .string) (h : LaysR Tryd.prog n t x) : ∃ s, x = [.lit (.string s)] := by
  cases n with
  | zero => exact h.elim
  | succ n =>
    simp only [LaysR, hu] at h
    obtain ⟨s, h, _⟩ := h
    exact ⟨s, h⟩
theorem map_of {α β : Type} {f : α → β} {R : α → Prop} : ∀ {es : List β}, (∀ x ∈ es, ∃ g, x = f g ∧ R g) → ∃ l : List α, es = l.map f ∧ ∀ g ∈ l, R g
  | [], _ => ⟨[], rfl, by simp⟩
  | x :: es, h => by
    obtain ⟨g, rfl, hg⟩ := h x (by simp)
    obtain ⟨l, rfl, hl⟩ := map_of (es := es) (fun y hy => h y (by simp [hy]))
    exact ⟨g :: l, rfl, by simpa using ⟨hg, hl⟩⟩
theorem lays_sl {α : Type} {f : α → List AV} {R : α → Prop} {n : Nat} {t e : TypeId} {x : List AV} {sz : Nat} (hu : Tryd.prog.underlying t = some (.slice e)) (hsz : Tryd.prog.cellsOf e = sz) (hel : ∀ {m : Nat} {x : List AV}, m < n → LaysR Tryd.prog m e x → ∃ g, x = f g ∧ R g)
    (h : LaysR Tryd.prog n t x) : ∃ (k : SK) (l : List α), x = [.sl k sz (l.map f)] ∧ ∀ g ∈ l, R g := by
  cases n with
  | zero => exact h.elim
  | succ n =>
    simp only [LaysR, hu] at h
    obtain ⟨kd, es, rfl, _, _, _, hes⟩ := h
    obtain ⟨l, rfl, hl⟩ := map_of (fun x hx => hel (Nat.lt_succ_self n) (hes x hx))
    exact ⟨kd, l, by rw [hsz], hl⟩
theorem u8_wf {m : Int} (h : (Lit.int .u8 m).wf = true) : 0 ≤ m ∧ m ≤ 255 := by
  simp [Lit.wf, IntKind.min, IntKind.max, IntKind.bits, IntKind.signed] at h
  omega
theorem i64_wf {m : Int} (h : (Lit.int .i64 m).wf = true) : -9223372036854775808 ≤ m ∧ m < 9223372036854775808 := by
  simp [Lit.wf, IntKind.min, IntKind.max, IntKind.bits, IntKind.signed] at h
  omega
theorem lays_expr : ∀ (n : Nat) {x : List AV}, LaysR Tryd.prog n 25 x → ∃ e : ExprV, x = e.cells ∧ e.Ok := by
  intro n
  induction n using Nat.strongRecOn with
  | _ n ih =>
    intro x h
    cases n with
    | zero => exact h.elim
    | succ n =>
      simp only [LaysR, Tryd.underlying25] at h
      obtain ⟨parts, rfl, hl, hp⟩ := h
      match parts, hl with
      | [p0, p1, p2, p3, p4], _ =>
        obtain ⟨kd, rfl, h0⟩ := lays_int Tryd.underlying5 (hp 0 _ p0 rfl rfl)
        obtain ⟨s, rfl⟩ := lays_str Tryd.underlying9 (hp 1 _ p1 rfl rfl)
        obtain ⟨m, rfl, h2⟩ := lays_int Tryd.underlying2 (hp 2 _ p2 rfl rfl)
        obtain ⟨k, l, rfl, h3⟩ := lays_sl (f := ExprV.cells) (R := ExprV.Ok) Tryd.underlying23 (sz := 5) (by kernel_rfl) (fun {m x} hm hx => ih m (by omega) hx) (hp 3 _ p3 rfl rfl)
        obtain ⟨pos, rfl, h4⟩ := lays_int Tryd.underlying3 (hp 4 _ p4 rfl rfl)
        have a0 := u8_wf h0
        have a2 := i64_wf h2
        have a4 := i64_wf h4
        exact ⟨.mk kd s m k l pos, by simp [ExprV.cells, exprCells_map], a0.1, a0.2, a2.1, a2.2, a4.1, a4.2, (exprsOk_iff l).2 h3⟩
theorem lays_stmt : ∀ (n : Nat) {x : List AV}, LaysR Tryd.prog n 38 x → ∃ s : StmtV, x = s.cells ∧ s.Ok := by
  intro n
  induction n using Nat.strongRecOn with
  | _ n ih =>
    intro x h
    cases n with
    | zero => exact h.elim
    | succ n =>
      simp only [LaysR, Tryd.underlying38] at h
      obtain ⟨parts, rfl, hl, hp⟩ := h
      match parts, hl with
      | [p0, p1, p2, p3, p4, p5, p6, p7], _ =>
        obtain ⟨kd, rfl, h0⟩ := lays_int Tryd.underlying5 (hp 0 _ p0 rfl rfl)
        obtain ⟨s, rfl⟩ := lays_str Tryd.underlying9 (hp 1 _ p1 rfl rfl)
        obtain ⟨to, rfl⟩ := lays_str Tryd.underlying9 (hp 2 _ p2 rfl rfl)
        obtain ⟨nw, rfl⟩ := lays_bool Tryd.underlying4 (hp 3 _ p3 rfl rfl)
        obtain ⟨ke, le, rfl, h4⟩ := lays_sl (f := ExprV.cells) (R := ExprV.Ok) Tryd.underlying23 (sz := 5) (by kernel_rfl) (fun {m x} hm hx => lays_expr m hx) (hp 4 _ p4 rfl rfl)
        obtain ⟨kb, lb, rfl, h5⟩ := lays_sl (f := StmtV.cells) (R := StmtV.Ok) Tryd.underlying36 (sz := 8) (by kernel_rfl) (fun {m x} hm hx => ih m (by omega) hx) (hp 5 _ p5 rfl rfl)
        obtain ⟨kl, ll, rfl, h6⟩ := lays_sl (f := StmtV.cells) (R := StmtV.Ok) Tryd.underlying36 (sz := 8) (by kernel_rfl) (fun {m x} hm hx => ih m (by omega) hx) (hp 6 _ p6 rfl rfl)
        obtain ⟨pos, rfl, h7⟩ := lays_int Tryd.underlying3 (hp 7 _ p7 rfl rfl)
        have a0 := u8_wf h0
        have a7 := i64_wf h7
        exact ⟨.mk kd s to nw ke le kb lb kl ll pos, by simp [StmtV.cells, exprCells_map, stmtCells_map], a0.1, a0.2, a7.1, a7.2, (exprsOk_iff _).2 h4, (stmtsOk_iff _).2 h5, (stmtsOk_iff _).2 h6⟩
theorem lays_name {n : Nat} {x : List AV} (h : LaysR Tryd.prog n 9 x) : ∃ s : ByteArray, x = [str s] ∧ True := by
  obtain ⟨s, rfl⟩ := lays_str Tryd.underlying9 h
  exact ⟨s, rfl, trivial⟩
theorem lays_decl {n : Nat} {x : List AV} (h : LaysR Tryd.prog n 40 x) : ∃ d : DeclV, x = d.cells ∧ d.Ok := by
  cases n with
  | zero => exact h.elim
  | succ n =>
    simp only [LaysR, Tryd.underlying40] at h
    obtain ⟨parts, rfl, hl, hp⟩ := h
    match parts, hl with
    | [p0, p1, p2, p3, p4, p5], _ =>
      obtain ⟨kd, rfl, h0⟩ := lays_int Tryd.underlying5 (hp 0 _ p0 rfl rfl)
      obtain ⟨s, rfl⟩ := lays_str Tryd.underlying9 (hp 1 _ p1 rfl rfl)
      obtain ⟨m, rfl, h2⟩ := lays_int Tryd.underlying2 (hp 2 _ p2 rfl rfl)
      obtain ⟨k, l, rfl, _⟩ := lays_sl (f := fun s => [str s]) (R := fun _ => True) Tryd.underlying35 (sz := 1) (by kernel_rfl) (fun {m x} hm hx => lays_name hx) (hp 3 _ p3 rfl rfl)
      obtain ⟨kb, lb, rfl, h4⟩ := lays_sl (f := StmtV.cells) (R := StmtV.Ok) Tryd.underlying36 (sz := 8) (by kernel_rfl) (fun {m x} hm hx => lays_stmt m hx) (hp 4 _ p4 rfl rfl)
      obtain ⟨pos, rfl, h5⟩ := lays_int Tryd.underlying3 (hp 5 _ p5 rfl rfl)
      have a0 := u8_wf h0
      have a2 := i64_wf h2
      exact ⟨⟨kd, s, m, k, l, kb, lb, pos⟩, by simp [DeclV.cells, strCells, stmtCells_map], a0.1, a0.2, a2.1, a2.2, (stmtsOk_iff _).2 h4⟩
theorem arg_expr {a : AV} (h : ArgS Tryd.prog 25 a) : ∃ e : ExprV, a = .agg e.cells ∧ e.Ok := by
  obtain ⟨x, n, h, rfl⟩ := h
  obtain ⟨e, rfl, he⟩ := lays_expr n h
  exact ⟨e, by simp [Tryd.underlying25], he⟩
theorem arg_decls {a : AV} (h : ArgS Tryd.prog 22 a) : ∃ (k : SK) (l : List DeclV), a = .sl k 6 (declCells l) ∧ ∀ d ∈ l, d.Ok := by
  obtain ⟨x, n, h, rfl⟩ := h
  obtain ⟨k, l, rfl, hl⟩ := lays_sl (f := DeclV.cells) (R := DeclV.Ok) Tryd.underlying22 (sz := 6) (by kernel_rfl) (fun {m x} hm hx => lays_decl hx) h
  exact ⟨k, l, by simp [Tryd.underlying22, declCells], hl⟩
theorem arg_str {a : AV} (h : ArgS Tryd.prog 9 a) : ∃ s : ByteArray, a = str s := by
  obtain ⟨x, n, h, rfl⟩ := h
  obtain ⟨s, rfl⟩ := lays_str Tryd.underlying9 h
  exact ⟨s, by simp [Tryd.underlying9]⟩
theorem arg_int {a : AV} (h : ArgS Tryd.prog 3 a) : ∃ m, a = i64 m ∧ -9223372036854775808 ≤ m ∧ m < 9223372036854775808 := by
  obtain ⟨x, n, h, rfl⟩ := h
  obtain ⟨m, rfl, hw⟩ := lays_int Tryd.underlying3 h
  exact ⟨m, by simp [Tryd.underlying3], i64_wf hw⟩

theorem bulk_exprs {l : List ExprV} (h : ∀ e ∈ l, e.sz ≤ bulkL e.cells) : exprSz l ≤ bulkLL (exprCells l) := by
  induction l with
  | nil => simp [exprSz]
  | cons e l ih =>
    rw [exprSz, exprCells, bulkLL]
    have := h e (by simp)
    have := ih fun x hx => h x (by simp [hx])
    omega
theorem bulk_expr (e : ExprV) : e.sz ≤ bulkL e.cells := by
  induction e using ExprV.ind with
  | h e ih =>
    have := bulk_exprs ih
    rw [e.sz_eq, e.cells_eq]
    simp only [bulkL, AV.bulk]
    omega
theorem bulk_stmts {l : List StmtV} (h : ∀ e ∈ l, e.sz ≤ bulkL e.cells) : stmtSz l ≤ bulkLL (stmtCells l) := by
  induction l with
  | nil => simp [stmtSz]
  | cons e l ih =>
    rw [stmtSz, stmtCells, bulkLL]
    have := h e (by simp)
    have := ih fun x hx => h x (by simp [hx])
    omega
theorem bulk_stmt (s : StmtV) : s.sz ≤ bulkL s.cells := by
  induction s using StmtV.ind with
  | h s ih1 ih2 =>
    have h1 := bulk_stmts ih1
    have h2 := bulk_stmts ih2
    have h3 := bulk_exprs (l := s.e) fun e _ => bulk_expr e
    rw [s.sz_eq, s.cells_eq]
    simp only [bulkL, AV.bulk]
    omega
theorem bulk_strs : ∀ l : List ByteArray, strSz l ≤ bulkLL (strCells l)
  | [] => by simp [strSz]
  | s :: l => by
    have := bulk_strs l
    rw [strSz]
    simp only [strCells, List.map_cons, bulkLL, bulkL, AV.bulk] at this ⊢
    omega
theorem bulk_decls : ∀ l : List DeclV, declSz l ≤ bulkLL (declCells l)
  | [] => by simp [declSz]
  | d :: l => by
    have h1 := bulk_decls l
    have h2 := bulk_strs d.params
    have h3 := bulk_stmts (l := d.body) fun s _ => bulk_stmt s
    rw [declSz, DeclV.sz]
    simp only [declCells, List.map_cons, bulkLL, DeclV.cells, bulkL, AV.bulk] at h1 ⊢
    omega
end Go.Proofs.YtebopfpgicamiaaDoor
