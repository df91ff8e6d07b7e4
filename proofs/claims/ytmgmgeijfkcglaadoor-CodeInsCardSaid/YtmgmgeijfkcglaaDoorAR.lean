/- CodeIns: what the arguments read as. -/
import Derived.Test.YtmgmgeijfkcglaaDoorLW
import Derived.Test.YtmgmgeijfkcglaaDoorH5
namespace Go.Proofs.YtmgmgeijfkcglaaDoor
open Go Go.Fw
/-- All types that the parameters reach. -/
def argTypes : List TypeId := [26, 3, 29, 22, 23, 24, 39, 42, 40, 27, 2, 4, 5, 9]
theorem map_of {α β : Type} {f : α → β} {R : α → Prop} : ∀ {es : List β}, (∀ x ∈ es, ∃ g, x = f g ∧ R g) → ∃ l : List α, es = l.map f ∧ ∀ g ∈ l, R g
  | [], _ => ⟨[], rfl, by simp⟩
  | x :: es, h => by
    obtain ⟨g, rfl, hg⟩ := h x (by simp)
    obtain ⟨l, rfl, hl⟩ := map_of (es := es) (fun y hy => h y (by simp [hy]))
    exact ⟨g :: l, rfl, by simpa using ⟨hg, hl⟩⟩

theorem lays_int {n : Nat} {t : TypeId} {k : IntKind} {x : List AV} (hu : Tryd.prog.underlying t = some (.int k)) (h : Lays Tryd.prog n t x) : ∃ m, x = [.lit (.int k m)] ∧ (Lit.int k m).wf = true := by
  cases n with
  | zero => exact h.elim
  | succ n => simpa only [Lays, hu] using h
theorem lays_bool {n : Nat} {t : TypeId} {x : List AV} (hu : Tryd.prog.underlying t = some .bool) (h : Lays Tryd.prog n t x) : ∃ b, x = [.lit (.bool b)] := by
  cases n with
  | zero => exact h.elim
  | succ n => simpa only [Lays, hu] using h
theorem lays_str {n : Nat} {t : TypeId} {x : List AV} (hu : Tryd.prog.underlying t = some .string) (h : Lays Tryd.prog n t x) : ∃ s, x = [.lit (.string s)] ∧ s.size ≤ maxLen := by
  cases n with
  | zero => exact h.elim
  | succ n => simpa only [Lays, hu] using h
theorem lays_sl {α : Type} {f : α → List AV} {R : α → Prop} {n : Nat} {t e : TypeId} {x : List AV} {sz : Nat} (hu : Tryd.prog.underlying t = some (.slice e)) (hsz : Tryd.prog.cellsOf e = sz) (hel : ∀ {n : Nat} {x : List AV}, Lays Tryd.prog n e x → ∃ g, x = f g ∧ R g)
    (h : Lays Tryd.prog n t x) : ∃ (k : SK) (l : List α), x = [.sl k sz (l.map f)] ∧ l.length ≤ maxLen ∧ ∀ g ∈ l, R g := by
  cases n with
  | zero => exact h.elim
  | succ n =>
    simp only [Lays, hu] at h
    obtain ⟨kd, es, rfl, _, hlen, hes⟩ := h
    obtain ⟨l, rfl, hl⟩ := map_of (fun x hx => hel (hes x hx))
    exact ⟨kd, l, by rw [hsz], by simpa using hlen, hl⟩

theorem u8_wf {m : Int} (h : (Lit.int .u8 m).wf = true) : 0 ≤ m ∧ m < 256 := by
  simp [Lit.wf, IntKind.min, IntKind.max, IntKind.bits, IntKind.signed] at h
  omega

theorem lays_int1 {n : Nat} {x : List AV} (h : Lays Tryd.prog n 3 x) : ∃ g : Int, x = [i64 g] ∧ True := by
  obtain ⟨m, rfl, _⟩ := lays_int Tryd.underlying3 h
  exact ⟨m, rfl, trivial⟩

theorem lays_ins {n : Nat} {x : List AV} (h : Lays Tryd.prog n 29 x) : ∃ g : Ins, x = g.cells ∧ g.Ok := by
  cases n with
  | zero => exact h.elim
  | succ n =>
    simp only [Lays, Tryd.underlying29] at h
    obtain ⟨parts, rfl, hl, hp⟩ := h
    match parts, hl with
    | [p0, p1, p2, p3, p4, p5], _ =>
      obtain ⟨op, rfl, hw⟩ := lays_int Tryd.underlying5 (hp 0 _ p0 rfl rfl)
      obtain ⟨r, rfl, _⟩ := lays_int Tryd.underlying3 (hp 1 _ p1 rfl rfl)
      obtain ⟨a, rfl, _⟩ := lays_int Tryd.underlying3 (hp 2 _ p2 rfl rfl)
      obtain ⟨b, rfl, _⟩ := lays_int Tryd.underlying3 (hp 3 _ p3 rfl rfl)
      obtain ⟨m, rfl, _⟩ := lays_int Tryd.underlying2 (hp 4 _ p4 rfl rfl)
      obtain ⟨k, l, rfl, hlen, _⟩ := lays_sl Tryd.underlying27 (sz := 1) (by kernel_rfl) lays_int1 (hp 5 _ p5 rfl rfl)
      have := u8_wf hw
      exact ⟨⟨op, r, a, b, m, k, 1, l⟩, rfl, this.1, this.2, hlen, .inl rfl⟩

theorem lays_mem {n : Nat} {x : List AV} (h : Lays Tryd.prog n 39 x) : ∃ g : MemV, x = g.cells ∧ True := by
  cases n with
  | zero => exact h.elim
  | succ n =>
    simp only [Lays, Tryd.underlying39] at h
    obtain ⟨parts, rfl, hl, hp⟩ := h
    match parts, hl with
    | [p0, p1, p2], _ =>
      obtain ⟨s, rfl, _⟩ := lays_str Tryd.underlying9 (hp 0 _ p0 rfl rfl)
      obtain ⟨m, rfl, _⟩ := lays_int Tryd.underlying3 (hp 1 _ p1 rfl rfl)
      obtain ⟨f, rfl, _⟩ := lays_int Tryd.underlying2 (hp 2 _ p2 rfl rfl)
      exact ⟨⟨s, m, f⟩, rfl, trivial⟩

theorem lays_lock {n : Nat} {x : List AV} (h : Lays Tryd.prog n 9 x) : ∃ s : ByteArray, x = [str s] ∧ True := by
  obtain ⟨s, rfl, _⟩ := lays_str Tryd.underlying9 h
  exact ⟨s, rfl, trivial⟩

theorem lays_fun {n : Nat} {x : List AV} (h : Lays Tryd.prog n 42 x) : ∃ g : FunV, x = g.cells ∧ g.code.length ≤ maxLen := by
  cases n with
  | zero => exact h.elim
  | succ n =>
    simp only [Lays, Tryd.underlying42] at h
    obtain ⟨parts, rfl, hl, hp⟩ := h
    match parts, hl with
    | [p0, p1, p2, p3, p4], _ =>
      obtain ⟨s, rfl, _⟩ := lays_str Tryd.underlying9 (hp 0 _ p0 rfl rfl)
      obtain ⟨b, rfl⟩ := lays_bool Tryd.underlying4 (hp 1 _ p1 rfl rfl)
      obtain ⟨m, rfl, _⟩ := lays_int Tryd.underlying3 (hp 2 _ p2 rfl rfl)
      obtain ⟨f, rfl, _⟩ := lays_int Tryd.underlying3 (hp 3 _ p3 rfl rfl)
      obtain ⟨k, l, rfl, hlen, _⟩ := lays_sl Tryd.underlying40 (sz := 6) (by kernel_rfl) lays_ins (hp 4 _ p4 rfl rfl)
      exact ⟨⟨s, b, m, f, k, l⟩, rfl, hlen⟩

theorem lays_prog {n : Nat} {x : List AV} (h : Lays Tryd.prog n 26 x) : ∃ g : PrgV, x = g.cells ∧ g.Ok := by
  cases n with
  | zero => exact h.elim
  | succ n =>
    simp only [Lays, Tryd.underlying26] at h
    obtain ⟨parts, rfl, hl, hp⟩ := h
    match parts, hl with
    | [p0, p1, p2], _ =>
      obtain ⟨k0, l0, rfl, hl0, _⟩ := lays_sl Tryd.underlying22 (sz := 3) (by kernel_rfl) lays_mem (hp 0 _ p0 rfl rfl)
      obtain ⟨k1, l1, rfl, hl1, _⟩ := lays_sl Tryd.underlying23 (sz := 1) (by kernel_rfl) lays_lock (hp 1 _ p1 rfl rfl)
      obtain ⟨k2, l2, rfl, hl2, hc⟩ := lays_sl Tryd.underlying24 (sz := 5) (by kernel_rfl) lays_fun (hp 2 _ p2 rfl rfl)
      exact ⟨⟨k0, k1, k2, l0, l1, l2⟩, rfl, hl0, hl1, hl2, hc⟩

theorem arg_prog {a : AV} (h : Arg Tryd.prog 26 a) : ∃ g : PrgV, a = .agg g.cells ∧ g.Ok := by
  obtain ⟨x, n, h, rfl⟩ := h
  obtain ⟨g, rfl, hg⟩ := lays_prog h
  exact ⟨g, by simp [Tryd.underlying26], hg⟩
theorem arg_ins {a : AV} (h : Arg Tryd.prog 29 a) : ∃ g : Ins, a = .agg g.cells ∧ g.Ok := by
  obtain ⟨x, n, h, rfl⟩ := h
  obtain ⟨g, rfl, hg⟩ := lays_ins h
  exact ⟨g, by simp [Tryd.underlying29], hg⟩
theorem arg_int {a : AV} (h : Arg Tryd.prog 3 a) : ∃ m, a = i64 m := by
  obtain ⟨x, n, h, rfl⟩ := h
  obtain ⟨m, rfl, _⟩ := lays_int Tryd.underlying3 h
  exact ⟨m, by simp [Tryd.underlying3]⟩

theorem ins_contract (vs : List AV) (hl : vs.length = Tryd.f3.params.size) (ha : ∀ (i : Nat) (t : TypeId) (a : AV), Tryd.f3.params[i]? = some t → vs[i]? = some a → Arg Tryd.prog t a) :
    ACall Tryd.prog 3 vs noHeap 0 (fun r _ _ => r = .lit (.bool true)) := by
  rw [Tryd.params3] at hl ha
  match vs, hl with
  | [a0, a1, a2, a3], _ =>
    obtain ⟨p, rfl, hp⟩ := arg_prog (ha 0 _ a0 rfl rfl)
    obtain ⟨n, rfl⟩ := arg_int (ha 1 _ a1 rfl rfl)
    obtain ⟨x, rfl, hx⟩ := arg_ins (ha 2 _ a2 rfl rfl)
    obtain ⟨y, rfl, hy⟩ := arg_ins (ha 3 _ a3 rfl rfl)
    exact p_CodeIns hp hx hy noHeap 0

end Go.Proofs.YtmgmgeijfkcglaaDoor
