/- flow: which graphs may be, by the program. -/
import Derived.Test.YtcoepjbipbihfaaGreatDoorVB
import Derived.Test.YtcoepjbipbihfaaGreatDoorM6
namespace Go.Proofs.YtcoepjbipbihfaaGreatDoor
set_option linter.unusedSimpArgs false
set_option linter.unusedVariables false
open Go Go.Fw
/-- Where one goes from blocks is told well enough to go round. -/
def Round (l : List BlkV) : Prop := ∀ b ∈ l, (b.code = [] → b.to ≠ []) ∧ ∀ t ∈ b.to, 0 ≤ t ∧ t < l.length
theorem circ_step {l : List BlkV} {n : Int} {k i : Nat} (hi : i < l.length) : circ l n (k + 1) (i : Int) = match l[i].code with
      | [] => match l[i].to with
        | t :: _ => if t = n then true else circ l n k t
        | [] => false
      | _ :: _ => false := by
  conv => lhs; unfold circ
  rw [show ((i : Int)).toNat = i by omega, List.getElem?_eq_getElem hi]
  cases hc : l[i].code with
  | nil => cases ht : l[i].to with
    | nil => simp [hc, ht]
    | cons t r => simp [hc, ht]
  | cons x r => simp [hc]

theorem p_circle {l : List BlkV} {k : SK} {n : Nat} (hm : l.length ≤ 1000000000) (hR : Round l) (hn : n < l.length) : PCall Tryz.prog 27 [.sl k 4 (blkCells l), i64 n] (bl (circ l n l.length n)) := by
  refine PCall.of fun N => acall mixed c_flow_circle (by simp) ?_
  obtain ⟨B, hB⟩ : ∃ B, circ l n l.length n = B := ⟨_, rfl⟩
  rw [hB]
  simp [a_flow_circle]
  refine run_loop (fun m s => ∃ (j i : Nat), j ≤ l.length ∧ m = l.length - j ∧ i < l.length ∧ s.A 0 = .sl k 4 (blkCells l) ∧ s.A 1 = i64 n ∧ s.A 5 = i64 i ∧ s.A 8 = i64 l.length ∧ s.A 9 = i64 j ∧ circ l n (l.length - j) i = B) l.length ?_ ?_
  · exact ⟨0, n, by omega, by omega, hn, by simp, by simp, by simp, by simp, by simp, by simpa using hB⟩
  · rintro m A1 H1 N1 ⟨j, i, hj, rfl, hi, e0, e1, e5, e8, e9, hc⟩
    simp only at e0 e1 e5 e8 e9
    by_cases hje : j = l.length
    · subst hje
      rw [Nat.sub_self] at hc
      have : B = false := hc.symm
      simp [a_flow_circleb1, e8, e9, this]
      exact .free rfl
    · have hlt : j < l.length := by omega
      rw [show l.length - j = (l.length - (j + 1)) + 1 by omega, circ_step hi] at hc
      obtain ⟨b, hb⟩ : ∃ b, l[i] = b := ⟨_, rfl⟩
      have hbm : b ∈ l := by rw [← hb]; exact List.getElem_mem hi
      have hix : aindex 4 (.sl k 4 (blkCells l)) (i64 (i : Nat)) = some (.ip b.cells 0) := aindex_sl (by omega) (by simp [blkCells, hi, hb])
      have hw : IntKind.i64.wrap ((j : Int) + 1) = ((j + 1 : Nat) : Int) := by rw [wrap_i64 (by omega) (by omega)]; rfl
      rw [hb] at hc
      cases hcode : b.code with
      | cons x r =>
        rw [hcode] at hc
        have : B = false := hc.symm
        have hp : (0 : Int) < (r.length : Int) + 1 := by omega
        simp [a_flow_circleb1, e0, e1, e5, e8, e9, hlt, hix, hcode, hp, this]
        exact .free rfl
      | nil =>
        rw [hcode] at hc
        have hp : ¬ (0 : Int) < b.code.length := by rw [hcode]; simp
        cases hto : b.to with
        | nil => exact absurd hto ((hR b hbm).1 hcode)
        | cons t r =>
          rw [hto] at hc
          have ht := (hR b hbm).2 t (by rw [hto]; simp)
          obtain ⟨tn, rfl⟩ : ∃ tn : Nat, t = (tn : Int) := ⟨t.toNat, by omega⟩
          have hix2 : aindex 1 (.sl b.tk 1 (intCells b.to)) (i64 0) = some (.ip [i64 tn] 0) := aindex_sl (n := 0) (by omega) (by rw [hto]; rfl)
          by_cases htn : tn = n
          · subst htn
            have : B = true := by rw [← hc]; simp
            simp [a_flow_circleb1, e0, e1, e5, e8, e9, hlt, hix, hcode, hix2, this]
            exact .free rfl
          · have htn' : ¬ (tn : Int) = n := by omega
            have hc' : circ l n (l.length - (j + 1)) tn = B := by
              have := hc
              simp only [htn', if_false] at this
              exact this
            simp [a_flow_circleb1, e0, e1, e5, e8, e9, hlt, hix, hcode, hix2, htn', hw]
            exact ⟨l.length - (j + 1), by omega, j + 1, by omega, rfl, tn, by omega, rfl, rfl, hc'⟩

theorem p_May1 {b : BlkV} {g : GrV} (hb : b.Ok) : PCall Tryz.prog 24 [.agg b.cells, .ip g.cells 0] (bl (!blkB g.regs b)) := by
  refine PCall.of fun N => acall mixed c_flow_May_1 (by simp) ?_
  simp [a_flow_May_1]
  refine (p_block hb).acall ?_
  simp
  exact .free rfl

theorem round_of {g : GrV} (h1 : (zall g.blocks fun b _ => blkB g.regs b) = true) (h2 : frosB g.blocks = true) : Round g.blocks := fun b hb => by
  obtain ⟨i, hi, rfl⟩ := List.getElem_of_mem hb
  refine ⟨fun hc ht => ?_, fun t ht => ?_⟩
  · have := zall_iff.1 h1 i hi
    simp only [blkB, Bool.and_eq_true, decide_eq_true_eq] at this
    have h3 := this.2.1
    rw [hc, ht] at h3
    simp [toN] at h3
  · simp only [frosB, Bool.and_eq_true] at h2
    have h3 := zall_iff.1 h2.1 i hi
    obtain ⟨j, hj, rfl⟩ := List.getElem_of_mem ht
    have := zall_iff.1 h3 j hj
    simpa [within] using this

theorem p_May_g {g : GrV} (hg : g.Ok) : PCall Tryz.prog 8 [.agg g.cells] (bl (mayG g)) := by
  have hbl := hg.bl
  refine PCall.of fun N => acall mixed c_flow_May (by simp) ?_
  obtain ⟨B, hB⟩ : ∃ B, mayG g = B := ⟨_, rfl⟩
  rw [hB]
  have no : headB g = false → B = false := fun h => by rw [← hB, mayG, h]; rfl
  have hd : ∀ (h : ¬ (0 ≤ g.params ∧ g.params ≤ 8 ∧ ¬ (g.thread = true ∧ 0 < g.params) ∧ g.params ≤ g.regs ∧ g.regs ≤ 65536 ∧ 1 ≤ g.blocks.length ∧ g.blocks.length ≤ 32768)), B = false := fun h => no (decide_eq_false h)
  by_cases c1 : g.params < 0
  · have := hd (by omega)
    simp [a_flow_May, c1, this]; exact .free rfl
  by_cases c2 : 8 < g.params
  · have := hd (by omega)
    simp [a_flow_May, c1, c2, this]; exact .free rfl
  by_cases c3 : g.thread = true ∧ 0 < g.params
  · have := hd (by intro h; exact h.2.2.1 c3)
    simp [a_flow_May, c1, c2, c3.1, c3.2, this]; exact .free rfl
  have main : ∀ (th : Bool), g.thread = th → (th = true → ¬ 0 < g.params) → run Tryz.prog a_flow_May [] (fin [.tmp 2] fun r' H' x => View H' r' (bl B)) ⟨argA [.agg g.cells], noHeap, N⟩ := fun th hth hdd => by
    have hpk : (if th = true then decide (0 < g.params) else false) = false := by
      cases th with
      | false => rfl
      | true => simp [hdd rfl]
    by_cases c4 : g.regs < g.params
    · have := hd (by omega)
      cases th with
      | false => simp [a_flow_May, c1, c2, hth, c4, this]; exact .free rfl
      | true => simp [a_flow_May, c1, c2, hth, hdd rfl, c4, this]; exact .free rfl
    by_cases c5 : 65536 < g.regs
    · have := hd (by omega)
      cases th with
      | false => simp [a_flow_May, c1, c2, hth, c4, c5, this]; exact .free rfl
      | true => simp [a_flow_May, c1, c2, hth, hdd rfl, c4, c5, this]; exact .free rfl
    by_cases c6 : (g.blocks.length : Int) < 1
    · have := hd (by omega)
      cases th with
      | false => simp [a_flow_May, c1, c2, hth, c4, c5, c6, this]; exact .free rfl
      | true => simp [a_flow_May, c1, c2, hth, hdd rfl, c4, c5, c6, this]; exact .free rfl
    by_cases c7 : (32768 : Int) < g.blocks.length
    · have := hd (by omega)
      cases th with
      | false => simp [a_flow_May, c1, c2, hth, c4, c5, c6, c7, this]; exact .free rfl
      | true => simp [a_flow_May, c1, c2, hth, hdd rfl, c4, c5, c6, c7, this]; exact .free rfl
    have hhead : headB g = true := decide_eq_true ⟨by omega, by omega, c3, by omega, by omega, by omega, by omega⟩
    unfold mayG at hB
    rw [hhead, Bool.true_and] at hB
    obtain ⟨b0, r0, hl0⟩ : ∃ b r, g.blocks = b :: r := by
      cases hgb : g.blocks with
      | nil => rw [hgb] at c6; simp at c6
      | cons b r => exact ⟨b, r, rfl⟩
    have hix0 : aindex 4 (.sl g.k 4 (blkCells g.blocks)) (i64 0) = some (.ip b0.cells 0) := aindex_sl (n := 0) (by omega) (by rw [hl0]; rfl)
    have hnp : noPhi g.blocks = b0.phis.isEmpty := by rw [hl0]; rfl
    by_cases c8 : b0.phis = []
    · rw [hnp, c8, show ([] : List PhiV).isEmpty = true from rfl, Bool.true_and] at hB
      have hPb := pc_Contains_Block (k := g.k) (p := blkB g.regs) (g := 24) (capt := [.ip g.cells 0]) hbl (fun x hx => p_May1 (g := g) (hg.ok x hx))
      have hPf := p_froms (k := g.k) (l := g.blocks) (by omega) hg.ok (by rw [hl0]; simp)
      have rest : ∀ (A : Nat → AV) (H : AHeap) (N' : Nat), A 1 = .ip g.cells 0 → run Tryz.prog a_may_rest [] (fin [.tmp 2] fun r' H' x => View H' r' (bl B)) ⟨A, H, N'⟩ := fun A H N' h1 => by
        simp [a_may_rest, h1]
        refine hPb.acall ?_
        cases hz : (zall g.blocks fun b _ => blkB g.regs b) with
        | false =>
          rw [hz, Bool.false_and] at hB
          simp [← hB]
          exact .free rfl
        | true =>
          rw [hz, Bool.true_and] at hB
          simp [h1]
          refine hPf.acall ?_
          cases hf : frosB g.blocks with
          | false =>
            rw [hf, Bool.false_and] at hB
            simp [← hB]
            exact .free rfl
          | true =>
            rw [hf, Bool.true_and] at hB
            have hR := round_of hz hf
            simp [h1]
            refine run_loop (fun m s => ∃ j, j ≤ g.blocks.length ∧ m = g.blocks.length - j ∧ s.A 1 = .ip g.cells 0 ∧ s.A 66 = i64 g.blocks.length ∧ s.A 67 = i64 j ∧ ∀ i (hi : i < g.blocks.length), i < j → circ g.blocks i g.blocks.length i = false) g.blocks.length ?_ ?_
            · exact ⟨0, by omega, by omega, by simp [h1], by simp, by simp, fun i _ h => by omega⟩
            · rintro m A1 H1 N1 ⟨j, hj, rfl, e1, e66, e67, hok⟩
              simp only at e1 e66 e67
              have hw : IntKind.i64.wrap ((j : Int) + 1) = ((j + 1 : Nat) : Int) := by rw [wrap_i64 (by omega) (by omega)]; rfl
              by_cases hje : j = g.blocks.length
              · subst hje
                have : B = true := by rw [← hB]; exact zall_iff.2 fun i hi => by rw [hok i hi hi]; rfl
                simp [a_flow_Mayb1, e66, e67, this]
                exact .free rfl
              · have hlt : j < g.blocks.length := by omega
                simp [a_flow_Mayb1, e1, e66, e67, hlt]
                refine (p_circle (k := g.k) (by omega) hR hlt).acall ?_
                cases hc : circ g.blocks j g.blocks.length j with
                | true =>
                  have : B = false := by rw [← hB]; exact zall_bad hlt (by rw [hc]; rfl)
                  simp [this]
                  exact .free rfl
                | false =>
                  simp [e1, e66, e67, hw]
                  refine ⟨g.blocks.length - (j + 1), by omega, j + 1, by omega, rfl, rfl, fun i hi hij => ?_⟩
                  by_cases hij2 : i = j
                  · subst hij2; exact hc
                  · exact hok i hi (by omega)
      unfold a_flow_May
      obtain ⟨_, er⟩ : ∃ c, a_may_rest = c := ⟨_, rfl⟩
      rw [er]
      cases th with
      | false =>
        simp [c1, c2, hth, c4, c5, c6, c7, hix0, c8]
        rw [← er]
        refine rest _ _ _ ?_
        simp
      | true =>
        simp [c1, c2, hth, hdd rfl, c4, c5, c6, c7, hix0, c8]
        rw [← er]
        refine rest _ _ _ ?_
        simp
    · obtain ⟨a, r, hq⟩ : ∃ a r, b0.phis = a :: r := by
        cases hq : b0.phis with
        | nil => exact absurd hq c8
        | cons a r => exact ⟨a, r, rfl⟩
      have hp : (0 : Int) < (r.length : Int) + 1 := by omega
      have : B = false := by rw [← hB, hnp, hq]; rfl
      cases th with
      | false => simp [a_flow_May, c1, c2, hth, c4, c5, c6, c7, hix0, hq, hp, this]; exact .free rfl
      | true => simp [a_flow_May, c1, c2, hth, hdd rfl, c4, c5, c6, c7, hix0, hq, hp, this]; exact .free rfl
  refine main g.thread rfl fun h => ?_
  by_cases h2 : 0 < g.params
  · exact absurd ⟨h, h2⟩ c3
  · exact h2
end Go.Proofs.YtcoepjbipbihfaaGreatDoor

/- flow: which programs of blocks may be, by the program. -/
namespace Go.Proofs.YtcoepjbipbihfaaGreatDoor
set_option linter.unusedSimpArgs false
set_option linter.unusedVariables false
open Go Go.Fw
theorem flat_set {sz : Nat} {v : AV} {c : Nat} (hc : c < sz) : ∀ {L : List (List AV)} (h : ∀ x ∈ L, x.length = sz) {k : Nat} (hk : k < L.length), L.flatten.set (k * sz + c) v = (L.set k (L[k].set c v)).flatten
  | [], _, k, hk => by simp at hk
  | a :: L, h, 0, hk => by
    have ha := h a (by simp)
    rw [Nat.zero_mul, Nat.zero_add, List.flatten_cons, List.set_append_left _ _ (by omega)]
    rfl
  | a :: L, h, k + 1, hk => by
    have ha := h a (by simp)
    have ih := flat_set hc (v := v) (L := L) (fun x hx => h x (by simp [hx])) (k := k) (by simpa using hk)
    have e : (k + 1) * sz + c = a.length + (k * sz + c) := by rw [ha, Nat.succ_mul]; omega
    rw [List.flatten_cons, e, List.set_append_right _ _ (by omega), Nat.add_sub_cancel_left, ih]
    simp
theorem fresh_rewr {H : AHeap} {N i : Nat} {o o2 : AObj} (h : Fresh H N) (hi : H i = some o) : Fresh (H.set i o2) N := fun j hj => by
  simp only [AHeap.set]; rw [if_neg (by have := h.lt hi; omega)]; exact h j hj
theorem FunV.frL (x : FunV) : freeL x.cells = true := by simp [FunV.cells, freeL, AV.free, show freeLL (x.code.map Ins.cells) = true from codeCells_free x.code]
theorem funCells_free (l : List FunV) : freeLL (funCells l) = true := freeLL_map _ l fun x _ => x.frL
theorem memCells_free (l : List MemV) : freeLL (memCells l) = true := freeLL_map _ l fun x _ => rfl
theorem lockCells_free (l : List ByteArray) : freeLL (lockCells l) = true := freeLL_map _ l fun x _ => rfl
theorem grCells_free (l : List GrV) : freeLL (grCells l) = true := freeLL_map _ l fun x _ => x.fr

theorem a_bare {f : FrmV} {H : AHeap} {N : Nat} (hl : f.funs.length ≤ 1000000000) (hF : Fresh H N) :
    ACall Tryz.prog 34 [.agg f.cells] H N (fun r H' N' => ∃ v, r = .agg [.sl f.mmk 3 (memCells f.mems), .sl f.lk 1 (lockCells f.locks), v] ∧ Built H' N 5 (.sl .nil 0 []) (funCells (f.funs.map fun g => bareG g g.params)) v ∧ Fresh H' N' ∧ N ≤ N') := by
  refine acall mixed c_flow_bare (by simp) ?_
  have hnone : H N = none := hF N (Nat.le_refl _)
  simp [a_flow_bare]
  refine run_loop (fun m s => ∃ j v, j ≤ f.funs.length ∧ m = f.funs.length - j ∧ s.A 2 = .mp N 0 ∧ s.A 3 = .mp (N + 1) 0 ∧ s.A 12 = .sl f.fk 5 (grCells f.funs) ∧ s.A 13 = i64 f.funs.length ∧ s.A 14 = i64 j ∧ s.H N = some (.blk [.sl .nil 0 [], .sl .nil 0 [], .sl .nil 0 []]) ∧ s.H (N + 1) = some (.blk [.sl f.mmk 3 (memCells f.mems), .sl f.lk 1 (lockCells f.locks), v]) ∧ Built s.H (N + 2) 5 (.sl .nil 0 []) (funCells ((f.funs.map fun g => bareG g g.params).take j)) v ∧ Fresh s.H s.N ∧ N + 2 ≤ s.N) f.funs.length ?_ ?_
  · refine ⟨0, .sl .nil 0 [], by omega, by omega, by simp, by simp, by simp, by simp, by simp, by simp, by simp, Built.nil, ?_, by simp⟩
    exact (hF.set _).set _
  · rintro m A1 H1 N1 ⟨j, v, hj, rfl, e2, e3, e12, e13, e14, h2, h3, hB, hF1, hN1⟩
    simp only at e2 e3 e12 e13 e14 h2 h3 hB hF1 hN1
    have hw : IntKind.i64.wrap ((j : Int) + 1) = ((j + 1 : Nat) : Int) := by rw [wrap_i64 (by omega) (by omega)]; rfl
    by_cases hje : j = f.funs.length
    · subst hje
      rw [show f.funs.length = (f.funs.map fun g => bareG g g.params).length by simp, List.take_length] at hB
      simp [a_flow_bareb1, e2, e3, e13, e14, h2, h3]
      refine ⟨?_, fresh_rewr hF1 h2, by omega⟩
      obtain ⟨b1, b2⟩ := hB
      refine ⟨b1, b2.imp id ?_⟩
      rintro ⟨hne, id, hid, rfl, hH⟩
      exact ⟨hne, id, by omega, rfl, by simp only [AHeap.set]; rw [if_neg (by omega)]; exact hH⟩
    · have hlt : j < f.funs.length := by omega
      obtain ⟨g, hg⟩ : ∃ g, f.funs[j] = g := ⟨_, rfl⟩
      have hix : aindex 5 (.sl f.fk 5 (grCells f.funs)) (i64 (j : Nat)) = some (.ip g.cells 0) := aindex_sl (by omega) (by simp [grCells, hlt, hg])
      have hsx : splice 0 g.cells [AV.lit (Value.string ⟨#[]⟩), AV.lit (Value.bool false), AV.lit (Value.int .i64 0), AV.lit (Value.int .i64 0), AV.sl .nil 0 []] = g.cells := splice_full (by simp)
      have hB1 := built_later (H' := H1.set N1 (.blk g.cells)) hB hF1 (fun i hi => by simp only [AHeap.set]; rw [if_neg (by omega)])
      have hF2 : Fresh (H1.set N1 (.blk g.cells)) (N1 + 1) := hF1.set _
      obtain ⟨v', H2, N2, happ, hB2, hlow, hN2, hF3⟩ := hB1.push (N := N1 + 1) (bytes := 64) (k := .exact) (x := (bareG g g.params).cells) hF2 (by omega) (by simp) (by simp [lim]; omega) (by simp; omega)
      have hvc := hB1.rd.cells
      have hvc2 := hB2.rd.cells
      have hrow : [AV.lit (Value.string g.name), AV.lit (Value.bool g.thread), AV.lit (Value.int .i64 g.params), AV.lit (Value.int .i64 g.params), AV.sl .exact 6 [[AV.lit (Value.int .u8 11), AV.lit (Value.int .i64 0), AV.lit (Value.int .i64 0), AV.lit (Value.int .i64 0), AV.lit (Value.int .i64 0), .sl .nil 0 []]]] = (bareG g g.params).cells := rfl
      rw [← hrow] at happ
      have hold2 : H2 N = some (.blk [.sl .nil 0 [], .sl .nil 0 [], .sl .nil 0 []]) := by rw [hlow N (by omega)]; simp only [AHeap.set]; rw [if_neg (by omega)]; exact h2
      have hold3 : H2 (N + 1) = some (.blk [.sl f.mmk 3 (memCells f.mems), .sl f.lk 1 (lockCells f.locks), v]) := by rw [hlow (N + 1) (by omega)]; simp only [AHeap.set]; rw [if_neg (by omega)]; exact h3
      simp [a_flow_bareb1, e2, e3, e12, e13, e14, hlt, hix, hsx, h3, show ¬ N + 1 = N1 by omega, happ, hvc, hvc2, hold2, hold3, hw, -AV.cells]
      refine ⟨f.funs.length - (j + 1), by omega, j + 1, by omega, rfl, by omega, ?_, fresh_rewr hF3 hold3, by omega⟩
      have htk : funCells ((f.funs.map fun g => bareG g g.params).take (j + 1)) = funCells ((f.funs.map fun g => bareG g g.params).take j) ++ [(bareG g g.params).cells] := by
        rw [take_next (by simpa using hlt)]
        simp [funCells, hg]
      rw [htk]
      obtain ⟨b1, b2⟩ := hB2
      refine ⟨b1, b2.imp id ?_⟩
      rintro ⟨hne, id, hid, rfl, hH⟩
      exact ⟨hne, id, hid, rfl, by simp only [AHeap.set]; rw [if_neg (by omega)]; exact hH⟩

/-- The Funs, when the registers of the first n are put right. -/
def funsTo (f : FrmV) (n : Nat) : List FunV := f.funs.zipIdx.map fun x => bareG x.1 (if x.2 < n then x.1.regs else x.1.params)
theorem funsTo_len (f : FrmV) (n : Nat) : (funsTo f n).length = f.funs.length := by simp [funsTo]
theorem funsTo_at {f : FrmV} {n i : Nat} (h : i < f.funs.length) : (funsTo f n)[i]? = some (bareG f.funs[i] (if i < n then f.funs[i].regs else f.funs[i].params)) := by
  simp [funsTo, h]
theorem funsTo_zero (f : FrmV) : funsTo f 0 = f.funs.map fun g => bareG g g.params := by
  refine List.ext_getElem? fun i => ?_
  by_cases h : i < f.funs.length
  · rw [funsTo_at h]; simp [h]
  · rw [List.getElem?_eq_none (by rw [funsTo_len]; omega), List.getElem?_eq_none (by simp; omega)]
theorem funsTo_next {f : FrmV} {n : Nat} (h : n < f.funs.length) : (funCells (funsTo f n)).flatten.set (n * 5 + 3) (i64 f.funs[n].regs) = (funCells (funsTo f (n + 1))).flatten := by
  have hl : n < (funCells (funsTo f n)).length := by rw [funCells_len, funsTo_len]; exact h
  rw [flat_set (by omega) (funCells_sz _) hl]
  congr 1
  refine List.ext_getElem? fun i => ?_
  by_cases hi : i < f.funs.length
  · have e1 : (funCells (funsTo f (n + 1)))[i]? = some (bareG f.funs[i] (if i < n + 1 then f.funs[i].regs else f.funs[i].params)).cells := funCells_at (funsTo_at hi)
    have e2 : (funCells (funsTo f n))[i]? = some (bareG f.funs[i] (if i < n then f.funs[i].regs else f.funs[i].params)).cells := funCells_at (funsTo_at hi)
    rw [e1]
    by_cases hin : i = n
    · subst hin
      rw [List.getElem?_set_self hl]
      rw [List.getElem?_eq_getElem hl] at e2
      rw [Option.some.inj e2]
      simp [bareG, FunV.cells]
    · rw [List.getElem?_set_ne (by omega), e2]
      by_cases h1 : i < n
      · rw [if_pos h1, if_pos (by omega)]
      · rw [if_neg h1, if_neg (by omega)]
  · rw [List.getElem?_eq_none (by simp [funsTo_len]; omega), List.getElem?_eq_none (by simp [funsTo_len]; omega)]
theorem bareTo_funs (f : FrmV) (n : Nat) : (bareTo f n).funs = funsTo f n := rfl

/-- What is asked of each instruction. -/
def insAt (f : FrmV) (g : GrV) (x : Ins) : Bool := mayB (bareF f) (bareG g g.regs) x
def prgTo (f : FrmV) (n : Nat) : PrgV := ⟨f.mmk, f.lk, .any, f.mems, f.locks, funsTo f n⟩
theorem p_MayForm1 {f : FrmV} {n : Nat} {x : Ins} (hn : n < f.funs.length) (hx : x.Ok) (hl : x.args.length ≤ 999999999990) :
    PCall Tryz.prog 36 [.agg x.cells, .ip (prgTo f (n + 1)).cells 0, .ip [i64 n] 0] (bl (!insAt f f.funs[n] x)) := by
  refine PCall.of fun N => acall mixed c_flow_MayForm_1 (by simp) ?_
  simp [a_flow_MayForm_1]
  refine (p_MayIns (p := prgTo f (n + 1)) (n := (n : Int)) hx hl).acall ?_
  have h1 : within (n : Int) (prgTo f (n + 1)).funs.length = true := by simp [within, prgTo, funsTo_len, hn]
  have h2 : (prgTo f (n + 1)).funs[((n : Int)).toNat]? = some (bareG f.funs[n] f.funs[n].regs) := by
    rw [show ((n : Int)).toNat = n by omega]
    show (funsTo f (n + 1))[n]? = _
    rw [funsTo_at hn, if_pos (by omega)]
  have h3 : mayB (prgTo f (n + 1)) (bareG f.funs[n] f.funs[n].regs) x = insAt f f.funs[n] x := mayB_congr rfl rfl (by
    show (funsTo f (n + 1)).map _ = (f.funs.map fun g => bareG g g.params).map _
    refine List.ext_getElem? fun i => ?_
    by_cases h : i < f.funs.length
    · rw [List.getElem?_map, funsTo_at h]; simp [h, bareG]
    · rw [List.getElem?_eq_none (by simp [funsTo_len]; omega), List.getElem?_eq_none (by simp; omega)]) rfl rfl
  rw [h1, h2, Bool.true_and]
  simp only [h3]
  simp
  exact .free rfl

theorem bareF_fit {f : FrmV} (hf : f.Ok) (ht : f.mems.length + f.locks.length + f.funs.length ≤ 1000000000) : (bareF f).Fit where
  tot := by simpa [bareF] using ht
  names := fun s hs => by
    simp only [PrgV.names, bareF, List.mem_append, List.mem_map] at hs
    rcases hs with (⟨m, h1, rfl⟩ | h1) | ⟨g, ⟨q, h1, rfl⟩, rfl⟩
    · have := hf.mn m h1; omega
    · have := hf.ln s h1; omega
    · have := (hf.ok q h1).nm; simp only [bareG]; omega
  cl := fun g hg => by
    simp only [bareF, List.mem_map] at hg
    obtain ⟨q, _, rfl⟩ := hg
    simp [bareG]
  ins := fun g hg x hx => by
    simp only [bareF, List.mem_map] at hg
    obtain ⟨q, _, rfl⟩ := hg
    simp only [bareG, List.mem_singleton] at hx
    subst hx
    exact ⟨⟨by decide, by decide, by simp [jmp1], .inr rfl⟩, by simp [jmp1]⟩
end Go.Proofs.YtcoepjbipbihfaaGreatDoor

/- flow: which programs of blocks may be, by the program: the walk. -/
namespace Go.Proofs.YtcoepjbipbihfaaGreatDoor
set_option linter.unusedSimpArgs false
set_option linter.unusedVariables false
open Go Go.Fw

/-- Instructions of which all have few Args. -/
def FewG (g : GrV) : Prop := ∀ b ∈ g.blocks, ∀ x ∈ b.code, x.args.length ≤ 1500
def grIns (f : FrmV) (g : GrV) : Bool := zall g.blocks fun b _ => zall b.code fun x _ => insAt f g x

section
variable {f : FrmV} {n o3 o4 id : Nat} {A : Nat → AV} {H : AHeap} {N : Nat} {fs : List Fr} {Q : Post}

theorem form_b1 (hf : f.Ok) (hn : n < f.funs.length) (hfew : FewG f.funs[n]) (h3 : A 3 = .mp o3 0) (h4 : A 4 = .mp o4 0) (h32 : A 32 = .sl f.funs[n].k 4 (blkCells f.funs[n].blocks)) (h33 : A 33 = i64 f.funs[n].blocks.length) (h34 : A 34 = i64 0)
    (ho3 : H o3 = some (.blk [.sl f.mmk 3 (memCells f.mems), .sl f.lk 1 (lockCells f.locks), .ms id 0 f.funs.length 5])) (ho4 : H o4 = some (.blk [i64 n])) (hid : H id = some (.blk (funCells (funsTo f (n + 1))).flatten)) (hF : Fresh H N)
    (hk : grIns f f.funs[n] = true → ∀ A' H' N', (∀ t ∈ [3, 14, 15, 16], A' t = A t) → (∀ j, j < N → H' j = H j) → Fresh H' N' → onward Tryz.prog fs Q (.exit 2) ⟨A', H', N'⟩)
    (hr : grIns f f.funs[n] = false → ∀ A' H' N', A' 2 = bl false → onward Tryz.prog fs Q .ret ⟨A', H', N'⟩) :
    run Tryz.prog (.loop a_flow_MayFormb1) fs Q ⟨A, H, N⟩ := by
  obtain ⟨g, hg⟩ : ∃ g, f.funs[n] = g := ⟨_, rfl⟩
  have hgo := hf.ok g (by rw [← hg]; exact List.getElem_mem hn)
  have hgb := hgo.bl
  have hmf : ∀ (b : BlkV), b ∈ g.blocks → ∀ x ∈ b.code, PCall Tryz.prog 36 (.agg x.cells :: [.ip (prgTo f (n + 1)).cells 0, .ip [i64 n] 0]) (bl (!insAt f g x)) := fun b hb x hx => by
    have := p_MayForm1 (f := f) hn ((hgo.ok b hb).al x hx).1 (by have := hfew b (by rw [hg]; exact hb) x hx; omega)
    rw [hg] at this
    exact this
  rw [hg] at h32 h33 hk hr
  refine run_loop (fun m s => ∃ j, j ≤ g.blocks.length ∧ m = g.blocks.length - j ∧ s.A 3 = .mp o3 0 ∧ s.A 4 = .mp o4 0 ∧ s.A 14 = A 14 ∧ s.A 15 = A 15 ∧ s.A 16 = A 16 ∧ s.A 32 = .sl g.k 4 (blkCells g.blocks) ∧ s.A 33 = i64 g.blocks.length ∧ s.A 34 = i64 j ∧ (∀ j, j < N → s.H j = H j) ∧ Fresh s.H s.N ∧ N ≤ s.N ∧ ∀ i (hi : i < g.blocks.length), i < j → (zall g.blocks[i].code fun x _ => insAt f g x) = true) g.blocks.length ?_ ?_
  · exact ⟨0, by omega, by omega, h3, h4, rfl, rfl, rfl, h32, h33, h34, fun _ _ => rfl, hF, Nat.le_refl _, fun i _ h => by omega⟩
  · rintro m A1 H1 N1 ⟨j, hj, rfl, e3, e4, e14, e15, e16, e32, e33, e34, hold, hF1, hN1, hok⟩
    simp only at e3 e4 e14 e15 e16 e32 e33 e34 hold hF1 hN1
    have hw : IntKind.i64.wrap ((j : Int) + 1) = ((j + 1 : Nat) : Int) := by rw [wrap_i64 (by omega) (by omega)]; rfl
    by_cases hje : j = g.blocks.length
    · subst hje
      have hall : grIns f g = true := zall_iff.2 fun i hi => hok i hi hi
      simp [a_flow_MayFormb1, e33, e34]
      refine hk hall _ _ _ ?_ hold hF1
      simp [e3, e14, e15, e16, h3]
    · have hlt : j < g.blocks.length := by omega
      obtain ⟨b, hb⟩ : ∃ b, g.blocks[j] = b := ⟨_, rfl⟩
      have hbm : b ∈ g.blocks := by rw [← hb]; exact List.getElem_mem hlt
      have hbo := hgo.ok b hbm
      have hix : aindex 4 (.sl g.k 4 (blkCells g.blocks)) (i64 (j : Nat)) = some (.ip b.cells 0) := aindex_sl (by omega) (by simp [blkCells, hlt, hb])
      have hsx : splice 0 b.cells [AV.sl .nil 0 [], AV.sl .nil 0 [], AV.sl .nil 0 [], AV.sl .nil 0 []] = b.cells := splice_full (by simp)
      have hP := pc_Contains_Ins (k := b.ck) (p := insAt f g) (g := 36) (capt := [.ip (prgTo f (n + 1)).cells 0, .ip [i64 n] 0]) hbo.cl (hmf b hbm)
      have hkeep : ∀ i, i < N → (H1.set N1 (.blk b.cells)) i = H i := fun i hi => by simp only [AHeap.set]; rw [if_neg (by omega)]; exact hold i hi
      simp [a_flow_MayFormb1, e3, e4, e32, e33, e34, hlt, hix, hsx]
      refine PCall.seen hP rfl (views (.cons (.free (by simp [AV.free, codeCells_free])) (.cons (.fn' .nil (.cons ?_ (.cons ?_ .nil))) .nil))) ?_
      · have vl : ViewL (H1.set N1 (.blk b.cells)) [.sl f.mmk 3 (memCells f.mems), .sl f.lk 1 (lockCells f.locks), .ms id 0 f.funs.length 5] (prgTo f (n + 1)).cells :=
          .cons (.free (by simp [AV.free, memCells_free])) (.cons (.free (by simp [AV.free, lockCells_free])) (.cons (view_flat (funCells_sz _) (funCells_free _) (by rw [funCells_len]; exact funsTo_len f (n + 1)) (by rw [hkeep id (hF.lt hid)]; exact hid)) .nil))
        exact View.mp (by rw [hkeep o3 (hF.lt ho3)]; exact ho3) vl.1 vl.2
      · have vl : ViewL (H1.set N1 (.blk b.cells)) [i64 n] [i64 n] := .cons (.free rfl) .nil
        exact View.mp (by rw [hkeep o4 (hF.lt ho4)]; exact ho4) vl.1 vl.2
      · cases hz : (zall b.code fun x _ => insAt f g x) with
        | false =>
          simp
          exact hr (zall_bad hlt (by rw [hb]; exact hz)) _ _ _ (by simp)
        | true =>
          simp [e3, e4, e14, e15, e16, e32, e33, e34, hw]
          refine ⟨g.blocks.length - (j + 1), by omega, j + 1, by omega, rfl, rfl, ?_, hF1.set _, by omega, fun i hi hij => ?_⟩
          · intro i hi
            have := hkeep i hi
            simpa [AHeap.set] using this
          · by_cases hij2 : i = j
            · subst hij2; rw [hb]; exact hz
            · exact hok i hi (by omega)
end

theorem p_MayForm {f : FrmV} (hf : f.Ok) (ht : f.mems.length + f.locks.length + f.funs.length ≤ 1000000000) (hfew : ∀ g ∈ f.funs, FewG g) : PCall Tryz.prog 12 [.agg f.cells] (bl (formB f)) := by
  refine PCall.of fun N => acallF mixed c_flow_MayForm (by simp) fun hF => ?_
  obtain ⟨B, hB⟩ : ∃ B, formB f = B := ⟨_, rfl⟩
  rw [hB]
  unfold formB at hB
  have hPm : PCall Tryz.prog 20 [.agg [.sl f.mmk 3 (memCells f.mems), .sl f.lk 1 (lockCells f.locks), bsl (.sl .nil 0 []) 5 (funCells (f.funs.map fun g => bareG g g.params))]] (bl (prgB (bareF f))) := by
    refine (p_May (bareF_fit hf ht)).nrm ?_
    by_cases h0 : f.funs = []
    · simp only [bareF, PrgV.cells, h0, if_true]
      rfl
    · simp only [bareF, PrgV.cells, if_neg h0]
      cases hq : f.funs with
      | nil => exact absurd hq h0
      | cons g r => rfl
  unfold a_flow_MayForm
  obtain ⟨_, e1⟩ : ∃ c, a_flow_MayFormb1 = c := ⟨_, rfl⟩
  simp
  refine (a_bare (by omega) hF).mono ?_
  rintro r H1 N1 ⟨v, rfl, hBv, hF1, hN1⟩
  have hvc := hBv.rd.cells
  have hnone := hF1 N1 (Nat.le_refl _)
  have hkeep : ∀ (x : AObj) i, i < N1 → (H1.set N1 x) i = H1 i := fun x i hi => by simp only [AHeap.set]; rw [if_neg (by omega)]
  simp [hnone, -AV.cells]
  refine PCall.seen hPm rfl (views (.cons (.agg' (.cons (.free (by simp [AV.free, memCells_free])) (.cons (.free (by simp [AV.free, lockCells_free])) (.cons ((built_later hBv hF1 (hkeep _)).view (funCells_free _)) .nil)))) .nil)) ?_
  cases hp : prgB (bareF f) with
  | false =>
    rw [hp, Bool.false_and] at hB
    simp [← hB]
    exact .free rfl
  | true =>
    rw [hp, Bool.true_and] at hB
    simp [-AV.cells]
    have hid : f.funs ≠ [] → ∃ id, v = .ms id 0 f.funs.length 5 ∧ H1 id = some (.blk (funCells (funsTo f 0)).flatten) := fun h0 => by
      obtain ⟨_, ⟨h1, _⟩ | ⟨_, id, _, h2, h3⟩⟩ := hBv
      · cases hq : f.funs with
        | nil => exact absurd hq h0
        | cons g r => rw [hq] at h1; cases h1
      · rw [funsTo_zero]
        exact ⟨id, by rw [h2, funCells_len, List.length_map], h3⟩
    refine run_loop (fun m s => ∃ n, n ≤ f.funs.length ∧ m = f.funs.length - n ∧ s.A 3 = .mp N1 0 ∧ s.A 14 = .sl f.fk 5 (grCells f.funs) ∧ s.A 15 = i64 f.funs.length ∧ s.A 16 = i64 n ∧ s.H N1 = some (.blk [.sl f.mmk 3 (memCells f.mems), .sl f.lk 1 (lockCells f.locks), v]) ∧ (∀ id, v = .ms id 0 f.funs.length 5 → f.funs ≠ [] → s.H id = some (.blk (funCells (funsTo f n)).flatten)) ∧ Fresh s.H s.N ∧ ∀ i (hi : i < f.funs.length), i < n → (mayG f.funs[i] && grIns f f.funs[i]) = true) f.funs.length ?_ ?_
    · refine ⟨0, by omega, by omega, by simp, by simp, by simp, by simp, by simp, fun id hv h0 => ?_, ?_, fun i _ h => by omega⟩
      · obtain ⟨id', h1, h2⟩ := hid h0
        rw [hv] at h1
        cases h1
        show (H1.set N1 _) id = _
        rw [hkeep _ id (hF1.lt h2)]; exact h2
      · exact hF1.set _
    · rintro m A2 H2 N2 ⟨n, hn, rfl, e3, e14, e15, e16, ho3, hfun, hF2, hok⟩
      simp only at e3 e14 e15 e16 ho3 hfun hF2
      by_cases hne : n = f.funs.length
      · subst hne
        have : B = true := by
          rw [← hB]
          exact zall_iff.2 fun i hi => hok i hi hi
        simp [a_flow_MayFormb2, e15, e16, this]
        exact .free rfl
      · have hlt : n < f.funs.length := by omega
        have h0 : f.funs ≠ [] := fun h => by rw [h] at hlt; simp at hlt
        obtain ⟨id, hv, _⟩ := hid h0
        have hfn := hfun id hv h0
        subst hv
        obtain ⟨g, hg⟩ : ∃ g, f.funs[n] = g := ⟨_, rfl⟩
        have hgo := hf.ok g (by rw [← hg]; exact List.getElem_mem hlt)
        have hix : aindex 5 (.sl f.fk 5 (grCells f.funs)) (i64 (n : Nat)) = some (.ip g.cells 0) := aindex_sl (by omega) (by simp [grCells, hlt, hg])
        have hsx : splice 0 g.cells [AV.lit (Value.string ⟨#[]⟩), AV.lit (Value.bool false), AV.lit (Value.int .i64 0), AV.lit (Value.int .i64 0), AV.sl .nil 0 []] = g.cells := splice_full (by simp)
        have hw : IntKind.i64.wrap ((n : Int) + 1) = ((n + 1 : Nat) : Int) := by rw [wrap_i64 (by omega) (by omega)]; rfl
        have hN12 : N1 < N2 := hF2.lt ho3
        have hid2 : id < N2 := hF2.lt hfn
        have hix2 : aindex 5 (.ms id 0 f.funs.length 5) (i64 (n : Nat)) = some (.mp id (n * 5)) := by simp [aindex, hlt]
        have hne1 : id ≠ N1 := fun h => by
          rw [h, ho3] at hfn
          have h1 := congrArg (fun x => match x with | some (AObj.blk cs) => cs.length | _ => 0) hfn
          simp only [List.length_cons, List.length_nil] at h1
          rw [flatten_len (funCells_sz _), funCells_len, funsTo_len] at h1
          omega
        have hcl : n * 5 + 3 + 1 ≤ (funCells (funsTo f n)).flatten.length := by rw [flatten_len (funCells_sz _), funCells_len, funsTo_len]; omega
        have hnext := funsTo_next hlt
        rw [hg] at hnext
        obtain ⟨CS, hCS⟩ : ∃ CS, (funCells (funsTo f n)).flatten = CS := ⟨_, rfl⟩
        rw [hCS] at hfn hcl hnext
        unfold a_flow_MayFormb2
        rw [e1]
        simp [e3, e14, e15, e16, hlt, hix, hsx, show ¬ N2 = N2 + 1 by omega]
        refine (p_May_g hgo).acall ?_
        cases hmg : mayG g with
        | false =>
          have : B = false := by rw [← hB]; exact zall_bad hlt (by rw [hg, hmg]; rfl)
          simp [this]
          exact .free rfl
        | true =>
          simp [e3, e14, e15, e16, ho3, show ¬ N1 = N2 + 1 by omega, show ¬ N1 = N2 by omega, show ¬ N2 = N2 + 1 by omega, hix2, hfn, show ¬ id = N2 + 1 by omega, show ¬ id = N2 by omega, show ¬ N2 + 1 = id by omega, show ¬ N2 = id by omega, hcl]
          rw [← e1]
          refine form_b1 (f := f) (n := n) (o3 := N1) (o4 := N2) (id := id) hf hlt (by rw [hg]; exact hfew g (by rw [← hg]; exact List.getElem_mem hlt)) ?_ ?_ ?_ ?_ ?_ ?_ ?_ ?_ ?_ (fun hz A3 H3 N3 hA3 hH3 hF3 => ?_) (fun hz A3 H3 N3 h2 => ?_)
          · simp [e3]
          · simp
          · simp [hg]
          · simp [hg]
          · simp
          · simp [show ¬ N1 = N2 + 1 by omega, show ¬ N1 = N2 by omega, show ¬ N1 = id by omega, ho3]
          · simp [show ¬ N2 = N2 + 1 by omega, show ¬ N2 = id by omega]
          · simp [hnext]
          · refine fresh_rewr (N := N2 + 1 + 1) ?_ (o := .blk CS) ?_
            · intro j hj
              simp only [AHeap.set]
              rw [if_neg (by omega), if_neg (by omega), if_neg (by omega), if_neg (by omega)]
              exact hF2 j (by omega)
            · simp [show ¬ id = N2 + 1 by omega, show ¬ id = N2 by omega, hfn]
          · have g3 := hA3 3 (by simp)
            have g14 := hA3 14 (by simp)
            have g15 := hA3 15 (by simp)
            have g16 := hA3 16 (by simp)
            simp [e3, e14, e15, e16] at g3 g14 g15 g16
            have q1 := hH3 N1 (by omega)
            have q2 := hH3 id (by omega)
            simp [show ¬ N1 = N2 + 1 by omega, show ¬ N1 = N2 by omega, show ¬ N1 = id by omega, ho3] at q1
            simp [hnext] at q2
            simp [g3, g14, g15, g16, hw]
            refine ⟨f.funs.length - (n + 1), by omega, n + 1, by omega, rfl, rfl, q1, fun _ => q2, hF3, fun i hi hin => ?_⟩
            by_cases hij : i = n
            · subst hij
              rw [hg] at hz ⊢
              exact ⟨hmg, hz⟩
            · have := hok i hi (by omega)
              simpa using this
          · rw [hg] at hz
            have : B = false := by rw [← hB]; exact zall_bad hlt (by rw [hg, hmg]; exact hz)
            simp [h2, this]
            exact .free rfl
end Go.Proofs.YtcoepjbipbihfaaGreatDoor
