/- flow: what the arguments read as, with their size. -/
import Derived.Test.YtcoepjbipbihfaaGreatDoorNM
namespace Go.Proofs.YtcoepjbipbihfaaGreatDoor
set_option linter.unusedSimpArgs false
set_option linter.unusedVariables false
set_option maxRecDepth 100000
open Go Go.Fw
/-- All types that the parameters reach. -/
def argTypes : List TypeId := [26, 3, 47, 22, 23, 24, 74, 30, 28, 45, 41, 56, 42, 43, 2, 4, 5, 9]

theorem lays_phi {n : Nat} {x : List AV} (h : LaysR Tryz.prog n 56 x) : ∃ g : PhiV, x = g.cells ∧ g.Ok := by
  cases n with
  | zero => exact h.elim
  | succ n =>
    simp only [LaysR, Tryz.underlying56] at h
    obtain ⟨parts, rfl, hl, hp⟩ := h
    match parts, hl with
    | [p0, p1], _ =>
      obtain ⟨r, rfl, _⟩ := lays_int Tryz.underlying3 (hp 0 _ p0 rfl rfl)
      obtain ⟨k, l, rfl, hlen, _⟩ := lays_sl Tryz.underlying43 (sz := 1) (by kernel_rfl) (b := 7) (by kernel_rfl) lays_int1 (hp 1 _ p1 rfl rfl)
      rw [reach_is] at hlen
      exact ⟨⟨r, k, l⟩, rfl, ⟨by simp only; omega⟩⟩

theorem lays_blk {n : Nat} {x : List AV} (h : LaysR Tryz.prog n 45 x) : ∃ g : BlkV, x = g.cells ∧ g.Ok := by
  cases n with
  | zero => exact h.elim
  | succ n =>
    simp only [LaysR, Tryz.underlying45] at h
    obtain ⟨parts, rfl, hl, hp⟩ := h
    match parts, hl with
    | [p0, p1, p2, p3], _ =>
      obtain ⟨k0, l0, rfl, h0, o0⟩ := lays_sl Tryz.underlying41 (sz := 2) (by kernel_rfl) (b := 31) (by kernel_rfl) lays_phi (hp 0 _ p0 rfl rfl)
      obtain ⟨k1, l1, rfl, h1, o1⟩ := lays_sl Tryz.underlying42 (sz := 6) (by kernel_rfl) (b := 63) (by kernel_rfl) lays_ins (hp 1 _ p1 rfl rfl)
      obtain ⟨k2, l2, rfl, h2, _⟩ := lays_sl Tryz.underlying43 (sz := 1) (by kernel_rfl) (b := 7) (by kernel_rfl) lays_int1 (hp 2 _ p2 rfl rfl)
      obtain ⟨k3, l3, rfl, h3, _⟩ := lays_sl Tryz.underlying43 (sz := 1) (by kernel_rfl) (b := 7) (by kernel_rfl) lays_int1 (hp 3 _ p3 rfl rfl)
      have hr := reach_is
      rw [reach_is] at h0 h1 h2 h3
      exact ⟨⟨k0, l0, k1, l1, k2, l2, k3, l3⟩, rfl, ⟨by simp only; omega, by simp only; omega, by simp only; omega, by simp only; omega, o0, fun x hx => ⟨(o1 x hx).1, by have := (o1 x hx).2; omega⟩⟩⟩

theorem lays_gr {n : Nat} {x : List AV} (h : LaysR Tryz.prog n 30 x) : ∃ g : GrV, x = g.cells ∧ g.Ok := by
  cases n with
  | zero => exact h.elim
  | succ n =>
    simp only [LaysR, Tryz.underlying30] at h
    obtain ⟨parts, rfl, hl, hp⟩ := h
    match parts, hl with
    | [p0, p1, p2, p3, p4], _ =>
      obtain ⟨s, rfl, hs⟩ := lays_str Tryz.underlying9 (hp 0 _ p0 rfl rfl)
      obtain ⟨b, rfl⟩ := lays_bool Tryz.underlying4 (hp 1 _ p1 rfl rfl)
      obtain ⟨m, rfl, _⟩ := lays_int Tryz.underlying3 (hp 2 _ p2 rfl rfl)
      obtain ⟨f, rfl, _⟩ := lays_int Tryz.underlying3 (hp 3 _ p3 rfl rfl)
      obtain ⟨k, l, rfl, hlen, hx⟩ := lays_sl Tryz.underlying28 (sz := 4) (by kernel_rfl) (b := 95) (by kernel_rfl) lays_blk (hp 4 _ p4 rfl rfl)
      rw [reach_is] at hs hlen
      exact ⟨⟨s, b, m, f, k, l⟩, rfl, ⟨by simp only; omega, by simp only; omega, hx⟩⟩

theorem lays_frm {n : Nat} {x : List AV} (h : LaysR Tryz.prog n 26 x) : ∃ g : FrmV, x = g.cells ∧ g.Ok := by
  cases n with
  | zero => exact h.elim
  | succ n =>
    simp only [LaysR, Tryz.underlying26] at h
    obtain ⟨parts, rfl, hl, hp⟩ := h
    match parts, hl with
    | [p0, p1, p2], _ =>
      obtain ⟨k0, l0, rfl, hl0, hm⟩ := lays_sl Tryz.underlying22 (sz := 3) (by kernel_rfl) (b := 31) (by kernel_rfl) lays_mem (hp 0 _ p0 rfl rfl)
      obtain ⟨k1, l1, rfl, hl1, hk⟩ := lays_sl Tryz.underlying23 (sz := 1) (by kernel_rfl) (b := 15) (by kernel_rfl) lays_lock (hp 1 _ p1 rfl rfl)
      obtain ⟨k2, l2, rfl, hl2, hc⟩ := lays_sl Tryz.underlying24 (sz := 5) (by kernel_rfl) (b := 63) (by kernel_rfl) lays_gr (hp 2 _ p2 rfl rfl)
      rw [reach_is] at hl0 hl1 hl2
      have hr := reach_is
      exact ⟨⟨k0, k1, k2, l0, l1, l2⟩, rfl, ⟨by simp only; omega, by simp only; omega, by simp only; omega, fun s hs => by have := hm s hs; omega, fun s hs => by have := hk s hs; omega, hc⟩⟩

theorem arg_frm {a : AV} (h : ArgS Tryz.prog 26 a) : ∃ g : FrmV, a = .agg g.cells ∧ g.Ok := by
  obtain ⟨x, n, h, rfl⟩ := h
  obtain ⟨g, rfl, hg⟩ := lays_frm h
  exact ⟨g, by simp [Tryz.underlying26], hg⟩
end Go.Proofs.YtcoepjbipbihfaaGreatDoor
