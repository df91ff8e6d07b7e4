/- dom: what the laws' arguments read as. -/
import Derived.Test.YtmbbklddjkmcmaaB1
import Derived.Test.YtmbbklddjkmcmaaM4
namespace Go.Proofs.Ytmbbklddjkmcmaa
set_option linter.unusedSimpArgs false
set_option linter.unusedVariables false
open Go Go.Fw
/-- All types that the parameters reach. -/
def argTypes : List TypeId := [22, 33, 3, 43, 5]
theorem map_of {α β : Type} {f : α → β} {R : α → Prop} : ∀ {es : List β}, (∀ x ∈ es, ∃ g, x = f g ∧ R g) → ∃ l : List α, es = l.map f ∧ ∀ g ∈ l, R g
  | [], _ => ⟨[], rfl, by simp⟩
  | x :: es, h => by
    obtain ⟨g, rfl, hg⟩ := h x (by simp)
    obtain ⟨l, rfl, hl⟩ := map_of (es := es) (fun y hy => h y (by simp [hy]))
    exact ⟨g :: l, rfl, by simpa using ⟨hg, hl⟩⟩
theorem lays_int {n : Nat} {t : TypeId} {k : IntKind} {x : List AV} (hu : Try.prog.underlying t = some (.int k)) (h : Lays Try.prog n t x) : ∃ m, x = [.lit (.int k m)] ∧ (Lit.int k m).wf = true := by
  cases n with
  | zero => exact h.elim
  | succ n => simpa only [Lays, hu] using h
theorem lays_sl {α : Type} {f : α → List AV} {R : α → Prop} {n : Nat} {t e : TypeId} {x : List AV} {sz : Nat} (hu : Try.prog.underlying t = some (.slice e)) (hsz : Try.prog.cellsOf e = sz) (hel : ∀ {n : Nat} {x : List AV}, Lays Try.prog n e x → ∃ g, x = f g ∧ R g)
    (h : Lays Try.prog n t x) : ∃ (k : SK) (l : List α), x = [.sl k sz (l.map f)] ∧ l.length ≤ maxLen ∧ ∀ g ∈ l, R g := by
  cases n with
  | zero => exact h.elim
  | succ n =>
    simp only [Lays, hu] at h
    obtain ⟨kd, es, rfl, _, hlen, hes⟩ := h
    obtain ⟨l, rfl, hl⟩ := map_of (fun x hx => hel (hes x hx))
    exact ⟨kd, l, by rw [hsz], by simpa using hlen, hl⟩
theorem lays_int1 {n : Nat} {x : List AV} (h : Lays Try.prog n 3 x) : ∃ g : Int, x = [i64 g] ∧ True := by
  obtain ⟨m, rfl, _⟩ := lays_int Try.underlying3 h
  exact ⟨m, rfl, trivial⟩
theorem u8_wf {m : Int} (h : (Lit.int .u8 m).wf = true) : 0 ≤ m ∧ m < 256 := by
  simp [Lit.wf, IntKind.min, IntKind.max, IntKind.bits, IntKind.signed] at h
  omega
theorem lays_u8 {n : Nat} {x : List AV} (h : Lays Try.prog n 5 x) : ∃ g : Int, x = [u8 g] ∧ (0 ≤ g ∧ g < 256) := by
  obtain ⟨m, rfl, hw⟩ := lays_int Try.underlying5 h
  exact ⟨m, rfl, u8_wf hw⟩
theorem lays_row {n : Nat} {x : List AV} (h : Lays Try.prog n 33 x) : ∃ g : RowV, x = [g.av] ∧ g.Ok := by
  obtain ⟨k, l, rfl, hlen, _⟩ := lays_sl Try.underlying33 (sz := 1) (by kernel_rfl) lays_int1 h
  exact ⟨⟨k, 1, l⟩, rfl, .inl rfl, hlen⟩

theorem arg_int {a : AV} (h : Arg Try.prog 3 a) : ∃ m, a = i64 m := by
  obtain ⟨x, n, h, rfl⟩ := h
  obtain ⟨m, rfl, _⟩ := lays_int Try.underlying3 h
  exact ⟨m, by simp [Try.underlying3]⟩
theorem arg_graph {a : AV} (h : Arg Try.prog 22 a) : ∃ x : GraphV, a = x.av ∧ x.Ok := by
  obtain ⟨x, n, h, rfl⟩ := h
  obtain ⟨k, l, rfl, hlen, hl⟩ := lays_sl Try.underlying22 (sz := 1) (by kernel_rfl) lays_row h
  exact ⟨⟨k, 1, l⟩, by simp [Try.underlying22, GraphV.av, gCells], .inl rfl, hlen, hl⟩
theorem arg_ints {a : AV} (h : Arg Try.prog 33 a) : ∃ r : RowV, a = r.av ∧ r.Ok := by
  obtain ⟨x, n, h, rfl⟩ := h
  obtain ⟨r, rfl, hr⟩ := lays_row h
  exact ⟨r, by simp [Try.underlying33], hr⟩

/-- A row of letters, as a value. -/
structure BytesV where
  k : SK
  l : List Int
def BytesV.av (r : BytesV) : AV := .sl r.k 1 (r.l.map fun v => [u8 v])
structure BytesV.Ok (r : BytesV) : Prop where
  hl : r.l.length ≤ maxLen
  hb : ∀ v ∈ r.l, 0 ≤ v ∧ v < 256
theorem arg_bytes {a : AV} (h : Arg Try.prog 43 a) : ∃ r : BytesV, a = r.av ∧ r.Ok := by
  obtain ⟨x, n, h, rfl⟩ := h
  obtain ⟨k, l, rfl, hlen, hb⟩ := lays_sl Try.underlying43 (sz := 1) (by kernel_rfl) lays_u8 h
  exact ⟨⟨k, l⟩, by simp [Try.underlying43, BytesV.av], hlen, hb⟩

end Go.Proofs.Ytmbbklddjkmcmaa
