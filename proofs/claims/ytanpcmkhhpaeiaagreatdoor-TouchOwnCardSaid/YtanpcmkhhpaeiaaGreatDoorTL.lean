/- touch: the law TouchOwn. -/
import Derived.Test.YtanpcmkhhpaeiaaGreatDoorTK
namespace Go.Proofs.YtanpcmkhhpaeiaaGreatDoor
set_option linter.unusedSimpArgs false
set_option linter.unusedVariables false
open Go Go.Fw
def wsV (w1 w2 w3 w4 w5 : AV) : Nat → AV := fun k => match k with | 0 => w1 | 1 => w2 | 2 => w3 | 3 => w4 | _ => w5
theorem wsV_lst {H : AHeap} {s : SumV} {w1 w2 w3 w4 w5 : AV} (h : SumAt H s w1 w2 w3 w4 w5) : ∀ k, k < 5 → Lst H (s.get k) (wsV w1 w2 w3 w4 w5 k) := fun k hk => by
  match k, hk with
  | 0, _ => exact h.r
  | 1, _ => exact h.w
  | 2, _ => exact h.t
  | 3, _ => exact h.g
  | 4, _ => exact h.c
section
variable {A : Nat → AV} {H : AHeap} {N : Nat} {fs : List Fr} {Q : Post} {p : PrgV}
theorem ip_ld (X : AHeap) (cs : List AV) (k : Nat) : aload X false 1 (.ip cs k) = cs[k]? := rfl
theorem own_x {c : ACode} (hc : a_own_x = c) (hn20 : p.funs.length ≤ 20) {i : Nat} {f : FunV} (hf : p.funs[i]? = some f) {v : AV} (hv : Lst H (thrL p.funs) v) (h1 : A 1 = .ip p.cells 0) (h3 : A 3 = v) (h4 : A 4 = i64 (thrL (p.funs.take i)).length) (h5 : A 5 = i64 (i : Nat))
    (hk : ∀ A', (∀ t ∈ [1, 3, 5], A' t = A t) → A' 4 = i64 (thrL (p.funs.take (i + 1))).length → onward Tryz.prog fs Q .normal ⟨A', H, N⟩) : run Tryz.prog c fs Q ⟨A, H, N⟩ := by
  subst hc
  have hlt : i < p.funs.length := (List.getElem?_eq_some_iff.1 hf).1
  have hfe : p.funs[i] = f := (List.getElem?_eq_some_iff.1 hf).2
  have hlv := hv.len
  have hth := thrL_len p.funs
  have hq : aindex 5 (.sl p.fk 5 (funCells p.funs)) (i64 (i : Nat)) = some (.ip f.cells 0) := aindex_sl (by omega) (by simp [funCells, hf])
  have hfc : f.cells = [str f.name, bl f.thread, i64 f.params, i64 f.regs, .sl f.k 6 (codeCells f.code)] := rfl
  rw [hfc] at hq
  have hnx := thrL_next hlt
  rw [hfe] at hnx
  have hta := thrL_len (p.funs.take i)
  rw [List.length_take] at hta
  have hwa : IntKind.i64.wrap (((thrL (p.funs.take i)).length : Int) + 1) = (((thrL (p.funs.take i)).length + 1 : Nat) : Int) := by rw [wrap_i64 (by omega) (by omega)]; rfl
  cases hth' : f.thread with
  | true =>
    rw [hth', if_pos rfl] at hnx
    have hat := thr_at hlt (by rw [hfe]; exact hth')
    have hatl := (List.getElem?_eq_some_iff.1 hat).1
    obtain ⟨pt, hpt, lpt⟩ := hv.get hat
    have n2 : ¬ (thrL p.funs).length ≤ (thrL (p.funs.take i)).length := by omega
    rw [hth'] at hq
    simp [a_own_x, h1, h5, hq, -alen]
    simp [h3, h4, h5, hlv, n2, hpt, lpt, hwa, -alen, -aload]
    refine hk _ ?_ ?_
    · simp [h1, h3, h5]
    · rw [hnx]
      simp
  | false =>
    rw [hth', if_neg (by simp)] at hnx
    rw [hth'] at hq
    simp [a_own_x, h1, h5, hq]
    exact hk _ (by simp [h1, h3, h5]) (by simp [h4, hnx])

theorem own_y {c : ACode} (hc : a_own_y = c) (hfew : ∀ f ∈ p.funs, FewF f) {i : Nat} {f : FunV} (hf : p.funs[i]? = some f) (h1 : A 1 = .ip p.cells 0) (h5 : A 5 = i64 (i : Nat)) (hF : Fresh H N)
    (hk : ∀ A' H' N', (∀ t ∈ [1, 3, 4, 5], A' t = A t) → Fresh H' N' → N ≤ N' → (∀ j, j < N → H' j = H j) → onward Tryz.prog fs Q .normal ⟨A', H', N'⟩) : run Tryz.prog c fs Q ⟨A, H, N⟩ := by
  subst hc
  obtain ⟨c4, e4'⟩ : ∃ c, (.loop a_bobbinlaw18_TouchOwnb4 : ACode) = c := ⟨_, rfl⟩
  have hlt : i < p.funs.length := (List.getElem?_eq_some_iff.1 hf).1
  have hff := hfew f (List.mem_of_getElem? hf)
  have hq : aindex 5 (.sl p.fk 5 (funCells p.funs)) (i64 (i : Nat)) = some (.ip f.cells 0) := aindex_sl (by omega) (by simp [funCells, hf])
  have hfc : f.cells = [str f.name, bl f.thread, i64 f.params, i64 f.regs, .sl f.k 6 (codeCells f.code)] := rfl
  rw [hfc] at hq
  unfold a_own_y
  rw [e4']
  simp [h1, h5, hq]
  refine (p_Own (code := f.code) (.sl _) rfl rfl rfl rfl (by have := hff.1; omega) N).monoF ?_
  rintro r2 H2 N2 ⟨hN2, hk2, w1, w2, w3, w4, w5, rfl, hf2⟩ hF2 _
  have u1 := hf2.r.lst.cells
  have u2 := hf2.w.lst.cells
  have u3 := hf2.t.lst.cells
  have u4 := hf2.g.lst.cells
  have u5 := hf2.c.lst.cells
  simp [splice, u1, u2, u3, u4, u5, -AV.cells]
  have kX : ∀ j, j < N2 → (H2.set N2 (.blk [w1, w2, w3, w4, w5])) j = H2 j := fun j hj => by simp only [AHeap.set]; rw [if_neg (by omega)]
  have sX := hf2.at.keep hF2 kX
  have FX : Fresh (H2.set N2 (.blk [w1, w2, w3, w4, w5])) (N2 + 1) := hF2.set _
  generalize H2.set N2 (.blk [w1, w2, w3, w4, w5]) = X at kX sX FX ⊢
  refine own_b4 e4' (i := i) (f := f) (H0 := X) (N0 := N2 + 1) (ws := wsV w1 w2 w3 w4 w5) ⟨hf, hff.1, wsV_lst sX, FX⟩ (by simp [h1]) (by simp [h5]) (by simp [lsV, wsV]) (by simp [opV]) (by simp) FX (Nat.le_refl _) (fun _ _ => rfl) fun A3 H3 N3 hk3 hF3 hN3 hold3 => ?_
  refine hk _ _ _ (fun t ht => (hk3 t ht).trans ?_) hF3 (by omega) fun j hj => (hold3 j (by omega)).trans ((kX j (by omega)).trans (hk2 j hj))
  simp only [List.mem_cons, List.not_mem_nil, or_false] at ht
  rcases ht with rfl | rfl | rfl | rfl <;> simp

theorem own_b5 {c : ACode} (hc : .loop a_bobbinlaw18_TouchOwnb5 = c) (hn20 : p.funs.length ≤ 20) (hfew : ∀ f ∈ p.funs, FewF f) {v : AV} (hv : Lst H (thrL p.funs) v) (h1 : A 1 = .ip p.cells 0) (h3 : A 3 = v) (h4 : A 4 = i64 0) (h5 : A 5 = i64 0) (hF : Fresh H N)
    (hk : ∀ A' H' N', A' 3 = v → A' 4 = i64 (thrL p.funs).length → onward Tryz.prog fs Q .normal ⟨A', H', N'⟩) : run Tryz.prog c (.blk 0 :: fs) Q ⟨A, H, N⟩ := by
  subst hc
  obtain ⟨cx, ex⟩ : ∃ c, a_own_x = c := ⟨_, rfl⟩
  obtain ⟨cy, ey⟩ : ∃ c, a_own_y = c := ⟨_, rfl⟩
  have hlen : alen 1 (.sl p.fk 5 (funCells p.funs)) = some (p.funs.length : Int) := by simp [alen, funCells]
  have ld2 : ∀ X, aload X false 1 (.ip p.cells 2) = some (.sl p.fk 5 (funCells p.funs)) := fun _ => rfl
  refine run_loop (fun m s => ∃ i : Nat, i ≤ p.funs.length ∧ m = p.funs.length - i ∧ s.A 1 = .ip p.cells 0 ∧ s.A 3 = v ∧ s.A 4 = i64 (thrL (p.funs.take i)).length ∧ s.A 5 = i64 i ∧ Fresh s.H s.N ∧ N ≤ s.N ∧ ∀ j, j < N → s.H j = H j) p.funs.length ?_ ?_
  · exact ⟨0, by omega, by omega, h1, h3, h4, h5, hF, Nat.le_refl _, fun _ _ => rfl⟩
  · rintro m A1 H1 N1 ⟨i, hi, rfl, e1, e3, e4, e5, hF1, hN1, hold1⟩
    simp only at e1 e3 e4 e5 hF1 hN1 hold1
    unfold a_bobbinlaw18_TouchOwnb5
    rw [ex, ey]
    by_cases hil : i = p.funs.length
    · rw [hil, List.take_length] at e4
      have n1 : ¬ ((i : Int) < p.funs.length) := by omega
      simp [e1, e5, n1]
      exact hk _ _ _ (by simp [e3]) (by simp [e4])
    · have hlt : i < p.funs.length := by omega
      have n1 : (i : Int) < p.funs.length := by omega
      obtain ⟨f, hf⟩ : ∃ f, p.funs[i]? = some f := ⟨p.funs[i], List.getElem?_eq_getElem hlt⟩
      have hwi : IntKind.i64.wrap ((i : Int) + 1) = ((i + 1 : Nat) : Int) := by rw [wrap_i64 (by omega) (by omega)]; rfl
      simp [e1, e5, n1]
      refine own_x ex hn20 hf (v := v) (hv.keep hF hold1) (by simp [e1]) (by simp [e3]) (by simp [e4]) (by simp [e5]) fun A2 k2 r4 => ?_
      have s1 : A2 1 = .ip p.cells 0 := (k2 1 (by simp)).trans (by simp [e1])
      have s3 : A2 3 = v := (k2 3 (by simp)).trans (by simp [e3])
      have s5 : A2 5 = i64 (i : Nat) := (k2 5 (by simp)).trans (by simp [e5])
      simp
      refine own_y ey hfew hf s1 s5 hF1 fun A3 H3 N3 k3 hF3 hN3 hold3 => ?_
      have u1 : A3 1 = .ip p.cells 0 := (k3 1 (by simp)).trans s1
      have u3 : A3 3 = v := (k3 3 (by simp)).trans s3
      have u4 : A3 4 = i64 (thrL (p.funs.take (i + 1))).length := (k3 4 (by simp)).trans r4
      have u5 : A3 5 = i64 (i : Nat) := (k3 5 (by simp)).trans s5
      simp [u1, u3, u4, u5, hwi]
      exact ⟨p.funs.length - (i + 1), by omega, i + 1, by omega, rfl, rfl, rfl, hF3, by omega, fun j hj => (hold3 j (by omega)).trans (hold1 j hj)⟩
end

theorem built_lst {H : AHeap} {lo : Nat} {l : List Int} {v : AV} (h : Built H lo 1 (.sl .nil 0 []) (intCells l) v) : Lst H l v := by
  obtain ⟨_, ⟨h1, rfl, _⟩ | ⟨_, id, h1, h2, h3⟩⟩ := h
  · have : l = [] := List.map_eq_nil_iff.1 h1
    subst this
    exact .nil _ _
  · rw [intCells_len] at h2
    rw [intCells_flat] at h3
    exact .inr ⟨id, 0, _, h2, h3, by simp, by rw [List.drop_zero]; exact List.take_of_length_le (by simp)⟩
theorem p_TouchOwn {p : PrgV} (hp : p.Rch) (H : AHeap) (N : Nat) : ACall Tryz.prog 8 [.agg p.cells] H N (fun r H' N' => r = bl true) := by
  obtain ⟨c5, e5⟩ : ∃ c, (.loop a_bobbinlaw18_TouchOwnb5 : ACode) = c := ⟨_, rfl⟩
  have lp : ∀ X, aload X true 3 (.ip p.cells 0) = some (.agg p.cells) := fun X => rfl
  refine acallF mixed c_bobbinlaw18_TouchOwn (by simp) fun hF => ?_
  unfold a_bobbinlaw18_TouchOwn
  rw [e5]
  simp [lp, aload_ip, -aload]
  refine (p_long hp H N).mono ?_
  rintro r1 H1 N1 ⟨rfl, rfl, b, rfl, hb⟩
  cases b with
  | true =>
    simp
    refine (p_awake H1 N1).mono ?_
    rintro r2 H2 N2 ⟨rfl, _⟩
    simp
  | false =>
    obtain ⟨hm, hl, hn20, hfew⟩ := hb rfl
    simp
    refine (p_awake H1 N1).monoF ?_
    rintro r2 H2 N2 ⟨rfl, hN2, hk2⟩ hF2 _
    simp [lp, aload_ip, -aload]
    refine (p_tThreads (p := p) (by omega) H2 N2).monoF ?_
    rintro v H3 N3 ⟨hN3, hk3, hB⟩ hF3 _
    have hL := built_lst hB
    have hlv := hL.len
    simp
    refine own_b5 e5 hn20 hfew hL (by simp) (by simp) (by simp) (by simp) hF3 fun A4 H4 N4 r3 r4 => ?_
    simp [r3, r4, hlv, -alen]
end Go.Proofs.YtanpcmkhhpaeiaaGreatDoor
