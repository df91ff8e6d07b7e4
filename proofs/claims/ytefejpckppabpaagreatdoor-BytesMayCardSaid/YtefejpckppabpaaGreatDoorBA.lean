/- bytes: what the arguments read as, with their size. -/
import Derived.Test.YtefejpckppabpaaGreatDoorNM
namespace Go.Proofs.YtefejpckppabpaaGreatDoor
set_option linter.unusedSimpArgs false
set_option linter.unusedVariables false
set_option maxRecDepth 100000
open Go Go.Fw
/-- All types that the parameters reach. -/
def argTypes : List TypeId := [26, 3, 22, 23, 24, 51, 44, 42, 46, 2, 4, 5, 9]

theorem lays_op {n : Nat} {x : List AV} (h : LaysR Tryz.prog n 46 x) : ∃ g : OpV, x = g.cells ∧ (0 ≤ g.code ∧ g.code < 256) := by
  cases n with
  | zero => exact h.elim
  | succ n =>
    simp only [LaysR, Tryz.underlying46] at h
    obtain ⟨parts, rfl, hl, hp⟩ := h
    match parts, hl with
    | [p0, p1], _ =>
      obtain ⟨op, rfl, hw⟩ := lays_int Tryz.underlying5 (hp 0 _ p0 rfl rfl)
      obtain ⟨m, rfl, _⟩ := lays_int Tryz.underlying2 (hp 1 _ p1 rfl rfl)
      exact ⟨⟨op, m⟩, rfl, u8_wf hw⟩

theorem lays_unit {n : Nat} {x : List AV} (h : LaysR Tryz.prog n 44 x) : ∃ g : UnitV, x = g.cells ∧ g.Ok := by
  cases n with
  | zero => exact h.elim
  | succ n =>
    simp only [LaysR, Tryz.underlying44] at h
    obtain ⟨parts, rfl, hl, hp⟩ := h
    match parts, hl with
    | [p0, p1, p2, p3, p4, p5], _ =>
      obtain ⟨s, rfl, hs⟩ := lays_str Tryz.underlying9 (hp 0 _ p0 rfl rfl)
      obtain ⟨b, rfl⟩ := lays_bool Tryz.underlying4 (hp 1 _ p1 rfl rfl)
      obtain ⟨m, rfl, _⟩ := lays_int Tryz.underlying3 (hp 2 _ p2 rfl rfl)
      obtain ⟨f, rfl, _⟩ := lays_int Tryz.underlying3 (hp 3 _ p3 rfl rfl)
      obtain ⟨d, rfl, _⟩ := lays_int Tryz.underlying3 (hp 4 _ p4 rfl rfl)
      obtain ⟨k, l, rfl, hlen, hx⟩ := lays_sl Tryz.underlying42 (sz := 2) (by kernel_rfl) (b := 15) (by kernel_rfl) lays_op (hp 5 _ p5 rfl rfl)
      rw [reach_is] at hs hlen
      exact ⟨⟨s, b, m, f, d, k, l⟩, rfl, ⟨by simp only; omega, by simp only; omega, hx⟩⟩

theorem lays_img {n : Nat} {x : List AV} (h : LaysR Tryz.prog n 26 x) : ∃ g : ImgV, x = g.cells ∧ g.Ok := by
  cases n with
  | zero => exact h.elim
  | succ n =>
    simp only [LaysR, Tryz.underlying26] at h
    obtain ⟨parts, rfl, hl, hp⟩ := h
    match parts, hl with
    | [p0, p1, p2], _ =>
      obtain ⟨k0, l0, rfl, hl0, hm⟩ := lays_sl Tryz.underlying22 (sz := 3) (by kernel_rfl) (b := 31) (by kernel_rfl) lays_mem (hp 0 _ p0 rfl rfl)
      obtain ⟨k1, l1, rfl, hl1, hk⟩ := lays_sl Tryz.underlying23 (sz := 1) (by kernel_rfl) (b := 15) (by kernel_rfl) lays_lock (hp 1 _ p1 rfl rfl)
      obtain ⟨k2, l2, rfl, hl2, hc⟩ := lays_sl Tryz.underlying24 (sz := 6) (by kernel_rfl) (b := 71) (by kernel_rfl) lays_unit (hp 2 _ p2 rfl rfl)
      rw [reach_is] at hl0 hl1 hl2
      have hr := reach_is
      exact ⟨⟨k0, l0, k1, l1, k2, l2⟩, rfl, ⟨by simp only; omega, by simp only; omega, by simp only; omega, fun s hs => by have := hm s hs; omega, fun s hs => by have := hk s hs; omega, hc⟩⟩

theorem arg_img {a : AV} (h : ArgS Tryz.prog 26 a) : ∃ g : ImgV, a = .agg g.cells ∧ g.Ok := by
  obtain ⟨x, n, h, rfl⟩ := h
  obtain ⟨g, rfl, hg⟩ := lays_img h
  exact ⟨g, by simp [Tryz.underlying26], hg⟩
theorem arg_int {a : AV} (h : ArgS Tryz.prog 3 a) : ∃ m, a = i64 m ∧ -9223372036854775808 ≤ m ∧ m ≤ 9223372036854775807 := by
  obtain ⟨x, n, h, rfl⟩ := h
  obtain ⟨m, rfl, hw⟩ := lays_int Tryz.underlying3 h
  exact ⟨m, by simp [Tryz.underlying3], i64_wf hw⟩
end Go.Proofs.YtefejpckppabpaaGreatDoor
