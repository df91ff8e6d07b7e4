/- code: what the arguments read as, with their size. -/
import Derived.Test.YtefejpckppabpaaGreatDoorW1
import Derived.Test.YtefejpckppabpaaGreatDoorM5
namespace Go.Proofs.YtefejpckppabpaaGreatDoor
set_option linter.unusedSimpArgs false
set_option linter.unusedVariables false
set_option maxRecDepth 100000
open Go Go.Fw
theorem reach_is : reachBytes = 140737488351232 := rfl
theorem map_of {α β : Type} {f : α → β} {R : α → Prop} : ∀ {es : List β}, (∀ x ∈ es, ∃ g, x = f g ∧ R g) → ∃ l : List α, es = l.map f ∧ ∀ g ∈ l, R g
  | [], _ => ⟨[], rfl, by simp⟩
  | x :: es, h => by
    obtain ⟨g, rfl, hg⟩ := h x (by simp)
    obtain ⟨l, rfl, hl⟩ := map_of (es := es) (fun y hy => h y (by simp [hy]))
    exact ⟨g :: l, rfl, by simpa using ⟨hg, hl⟩⟩

theorem lays_int {n : Nat} {t : TypeId} {k : IntKind} {x : List AV} (hu : Tryz.prog.underlying t = some (.int k)) (h : LaysR Tryz.prog n t x) : ∃ m, x = [.lit (.int k m)] ∧ (Lit.int k m).wf = true := by
  cases n with
  | zero => exact h.elim
  | succ n => simpa only [LaysR, hu] using h
theorem lays_bool {n : Nat} {t : TypeId} {x : List AV} (hu : Tryz.prog.underlying t = some .bool) (h : LaysR Tryz.prog n t x) : ∃ b, x = [.lit (.bool b)] := by
  cases n with
  | zero => exact h.elim
  | succ n => simpa only [LaysR, hu] using h
theorem lays_str {n : Nat} {t : TypeId} {x : List AV} (hu : Tryz.prog.underlying t = some .string) (h : LaysR Tryz.prog n t x) : ∃ s, x = [.lit (.string s)] ∧ s.size ≤ reachBytes := by
  cases n with
  | zero => exact h.elim
  | succ n => simpa only [LaysR, hu] using h
theorem lays_sl {α : Type} {f : α → List AV} {R : α → Prop} {n : Nat} {t e : TypeId} {x : List AV} {sz b : Nat} (hu : Tryz.prog.underlying t = some (.slice e)) (hsz : Tryz.prog.cellsOf e = sz) (hb : Tryz.prog.bytesOf e = b + 1) (hel : ∀ {n : Nat} {x : List AV}, LaysR Tryz.prog n e x → ∃ g, x = f g ∧ R g)
    (h : LaysR Tryz.prog n t x) : ∃ (k : SK) (l : List α), x = [.sl k sz (l.map f)] ∧ l.length ≤ reachBytes ∧ ∀ g ∈ l, R g := by
  cases n with
  | zero => exact h.elim
  | succ n =>
    simp only [LaysR, hu] at h
    obtain ⟨kd, es, rfl, _, hlen, hwt, hes⟩ := h
    obtain ⟨l, rfl, hl⟩ := map_of (fun x hx => hel (hes x hx))
    rw [hb, List.length_map] at hwt
    exact ⟨kd, l, by rw [hsz], Nat.le_trans (Nat.le_mul_of_pos_right _ (Nat.succ_pos b)) hwt, hl⟩

theorem u8_wf {m : Int} (h : (Lit.int .u8 m).wf = true) : 0 ≤ m ∧ m < 256 := by
  simp [Lit.wf, IntKind.min, IntKind.max, IntKind.bits, IntKind.signed] at h
  omega
theorem i64_wf {m : Int} (h : (Lit.int .i64 m).wf = true) : -9223372036854775808 ≤ m ∧ m ≤ 9223372036854775807 := by
  simp [Lit.wf, IntKind.min, IntKind.max, IntKind.bits, IntKind.signed] at h
  omega

theorem lays_int1 {n : Nat} {x : List AV} (h : LaysR Tryz.prog n 3 x) : ∃ g : Int, x = [i64 g] ∧ True := by
  obtain ⟨m, rfl, _⟩ := lays_int Tryz.underlying3 h
  exact ⟨m, rfl, trivial⟩

theorem lays_mem {n : Nat} {x : List AV} (h : LaysR Tryz.prog n 51 x) : ∃ g : MemV, x = g.cells ∧ g.name.size ≤ reachBytes := by
  cases n with
  | zero => exact h.elim
  | succ n =>
    simp only [LaysR, Tryz.underlying51] at h
    obtain ⟨parts, rfl, hl, hp⟩ := h
    match parts, hl with
    | [p0, p1, p2], _ =>
      obtain ⟨s, rfl, hs⟩ := lays_str Tryz.underlying9 (hp 0 _ p0 rfl rfl)
      obtain ⟨m, rfl, _⟩ := lays_int Tryz.underlying3 (hp 1 _ p1 rfl rfl)
      obtain ⟨f, rfl, _⟩ := lays_int Tryz.underlying2 (hp 2 _ p2 rfl rfl)
      exact ⟨⟨s, m, f⟩, rfl, hs⟩

theorem lays_lock {n : Nat} {x : List AV} (h : LaysR Tryz.prog n 9 x) : ∃ s : ByteArray, x = [str s] ∧ s.size ≤ reachBytes := by
  obtain ⟨s, rfl, hs⟩ := lays_str Tryz.underlying9 h
  exact ⟨s, rfl, hs⟩

end Go.Proofs.YtefejpckppabpaaGreatDoor
