/- flow: which blocks may be, by the reference. -/
import Derived.Test.YtcoepjbipbihfaaGreatDoorVT
namespace Go.Proofs.YtcoepjbipbihfaaGreatDoor
set_option linter.unusedSimpArgs false
set_option linter.unusedVariables false
open Go Go.Fw
def lastOp (code : List Ins) : Int := match code.getLast? with
  | some x => x.op
  | none => 0
theorem toN_last (code : List Ins) : toN code = if lastOp code = 12 then 2 else if lastOp code = 13 then 0 else 1 := by
  unfold toN lastOp
  cases code.getLast? with
  | none => rfl
  | some x => rfl
theorem p_rlast {b : BlkV} (hb : b.Ok) : PCall Tryz.prog 74 [.agg b.cells] (u8 (lastOp b.code)) := by
  have hcl := hb.cl
  refine PCall.of fun N => acall mixed c_bobbinref11_last (by simp) ?_
  by_cases h0 : b.code = []
  · have : lastOp b.code = 0 := by rw [h0]; rfl
    simp [a_bobbinref11_last, h0, codeCells]
    exact .free rfl
  · have hlt : b.code.length - 1 < b.code.length := by cases hq : b.code with
      | nil => exact absurd hq h0
      | cons a r => simp
    obtain ⟨x, hx⟩ : ∃ x, b.code[b.code.length - 1] = x := ⟨_, rfl⟩
    have hl : lastOp b.code = x.op := by
      unfold lastOp
      rw [List.getLast?_eq_getElem?, List.getElem?_eq_getElem hlt, hx]
    have hsub : IntKind.i64.wrap ((b.code.length : Int) - 1) = ((b.code.length - 1 : Nat) : Int) := by rw [wrap_i64 (by omega) (by omega)]; omega
    have hix : aindex 6 (.sl b.ck 6 (codeCells b.code)) (i64 ((b.code.length - 1 : Nat) : Int)) = some (.ip x.cells 0) := aindex_sl (by omega) (by simp only [Int.toNat_natCast, codeCells, List.getElem?_map, List.getElem?_eq_getElem hlt, Option.map_some, hx])
    have hc : ¬ (b.code.length : Int) = 0 := by omega
    simp [a_bobbinref11_last, h0, hsub, hix, hl]
    exact .free rfl
theorem p_rends (op : Int) : PCall Tryz.prog 73 [u8 op] (bl (endsB op)) := by
  refine PCall.of fun N => acall mixed c_bobbinref11_ends (by simp) ?_
  by_cases h1 : op = 11
  · simp [a_bobbinref11_ends, h1, endsB]; exact .free rfl
  · by_cases h2 : op = 12
    · simp [a_bobbinref11_ends, h1, h2, endsB]; exact .free rfl
    · by_cases h3 : op = 13
      · simp [a_bobbinref11_ends, h1, h2, h3, endsB]; exact .free rfl
      · simp [a_bobbinref11_ends, h1, h2, h3, endsB]; exact .free rfl

theorem p_rhas {k : SK} {l : List Int} {n : Int} (hl : l.length ≤ 140737488355328) : PCall Tryz.prog 76 [.sl k 1 (intCells l), i64 n] (bl (decide (n ∈ l))) := by
  refine PCall.of fun N => acall mixed c_bobbinref11_has (by simp) ?_
  obtain ⟨B, hB⟩ : ∃ B, decide (n ∈ l) = B := ⟨_, rfl⟩
  rw [hB]
  simp [a_bobbinref11_has]
  refine run_loop (fun m s => ∃ j, j ≤ l.length ∧ m = l.length - j ∧ s.A 0 = .sl k 1 (intCells l) ∧ s.A 1 = i64 n ∧ s.A 5 = i64 j ∧ n ∉ l.take j) l.length ?_ ?_
  · exact ⟨0, by omega, by omega, by simp, by simp, by simp, by simp⟩
  · rintro m A1 H1 N1 ⟨j, hj, rfl, e0, e1, e5, hno⟩
    simp only at e0 e1 e5
    have hw : IntKind.i64.wrap ((j : Int) + 1) = ((j + 1 : Nat) : Int) := by rw [wrap_i64 (by omega) (by omega)]; rfl
    by_cases hje : j = l.length
    · subst hje
      rw [List.take_length] at hno
      have : B = false := by rw [← hB]; exact decide_eq_false hno
      simp [a_bobbinref11_hasb1, e0, e1, e5, intCells_len, this]
      exact .free rfl
    · have hlt : j < l.length := by omega
      obtain ⟨v, hv⟩ : ∃ v, l[j] = v := ⟨_, rfl⟩
      have hix : aindex 1 (.sl k 1 (intCells l)) (i64 (j : Nat)) = some (.ip [i64 v] 0) := aindex_sl (by omega) (by simp [intCells, hlt, hv])
      by_cases hvn : v = n
      · have : B = true := by rw [← hB]; exact decide_eq_true (by rw [← hvn, ← hv]; exact List.getElem_mem hlt)
        simp [a_bobbinref11_hasb1, e0, e1, e5, intCells_len, hlt, hix, hvn, this]
        exact .free rfl
      · simp [a_bobbinref11_hasb1, e0, e1, e5, intCells_len, hlt, hix, hvn, hw]
        refine ⟨l.length - (j + 1), by omega, j + 1, by omega, rfl, rfl, ?_⟩
        rw [take_next hlt, List.mem_append, List.mem_singleton, hv]
        rintro (h | h)
        · exact hno h
        · exact hvn h.symm

def fromsTo (l : List BlkV) (n j : Nat) : List Int := ((l.zipIdx.take j).filter fun x => decide ((n : Int) ∈ x.1.to)).map fun x => (x.2 : Int)
theorem fromsTo_next {l : List BlkV} {n j : Nat} (h : j < l.length) : fromsTo l n (j + 1) = if (n : Int) ∈ l[j].to then fromsTo l n j ++ [(j : Int)] else fromsTo l n j := by
  unfold fromsTo
  rw [take_next (by simpa using h), List.filter_append, List.map_append]
  by_cases hm : (n : Int) ∈ l[j].to
  · simp [hm]
  · simp [hm]
theorem fromsTo_end (l : List BlkV) (n : Nat) : fromsTo l n l.length = fromsL l n := by
  unfold fromsTo fromsL
  rw [List.take_of_length_le (by simp)]
theorem fromsTo_len (l : List BlkV) (n j : Nat) : (fromsTo l n j).length ≤ j := by
  unfold fromsTo
  rw [List.length_map]
  refine Nat.le_trans (List.length_filter_le _ _) ?_
  simp
  omega

theorem p_rFroms {k : SK} {l : List BlkV} {n : Nat} (hm : l.length ≤ 1000000000) (htl : ∀ b ∈ l, b.to.length ≤ 140737488355328) : PCall Tryz.prog 30 [.sl k 4 (blkCells l), i64 n] (bsl (.sl .nil 0 []) 1 (intCells (fromsL l n))) := by
  refine PCall.of fun N => acallF mixed c_bobbinref11_Froms (by simp) fun hF => ?_
  simp [a_bobbinref11_Froms]
  refine run_loop (fun m s => ∃ j v, j ≤ l.length ∧ m = l.length - j ∧ s.A 0 = .sl k 4 (blkCells l) ∧ s.A 1 = i64 n ∧ s.A 5 = v ∧ s.A 6 = i64 j ∧ Built s.H N 1 (.sl .nil 0 []) (intCells (fromsTo l n j)) v ∧ Fresh s.H s.N ∧ N ≤ s.N) l.length ?_ ?_
  · exact ⟨0, _, by omega, by omega, by simp, by simp, by simp, by simp, Built.nil, hF, by simp⟩
  · rintro m A1 H1 N1 ⟨j, v, hj, rfl, e0, e1, e5, e6, hBv, hF1, hN1⟩
    simp only at e0 e1 e5 e6 hBv hF1 hN1
    have hw : IntKind.i64.wrap ((j : Int) + 1) = ((j + 1 : Nat) : Int) := by rw [wrap_i64 (by omega) (by omega)]; rfl
    by_cases hje : j = l.length
    · subst hje
      rw [fromsTo_end] at hBv
      simp [a_bobbinref11_Fromsb1, e0, e1, e5, e6]
      exact hBv.view (intCells_free _)
    · have hlt : j < l.length := by omega
      obtain ⟨b, hb⟩ : ∃ b, l[j] = b := ⟨_, rfl⟩
      have hix : aindex 4 (.sl k 4 (blkCells l)) (i64 (j : Nat)) = some (.ip b.cells 0) := aindex_sl (by omega) (by simp [blkCells, hlt, hb])
      have hnx := fromsTo_next (n := n) hlt
      rw [hb] at hnx
      have hfl := fromsTo_len l n j
      have hvc := hBv.rd.cells
      simp [a_bobbinref11_Fromsb1, e0, e1, e5, e6, hlt, hix, -AV.cells]
      refine (p_rhas (k := b.tk) (l := b.to) (n := (n : Int)) (htl b (by rw [← hb]; exact List.getElem_mem hlt))).acall ?_
      by_cases hmm : (n : Int) ∈ b.to
      · rw [if_pos hmm] at hnx
        obtain ⟨v', H2, N2, happ, hB2, hlow, hN2, hF2⟩ := hBv.push (N := N1) (bytes := 8) (k := .exact) (x := [i64 j]) hF1 (by omega) rfl (by rw [intCells_len]; simp [lim]; omega) (by rw [intCells_len]; omega)
        simp [hmm, e0, e1, e5, e6, happ, hw, -AV.cells]
        refine ⟨l.length - (j + 1), by omega, j + 1, by omega, rfl, rfl, ?_, hF2, by omega⟩
        rw [hnx, intCells_app]; exact hB2
      · rw [if_neg hmm] at hnx
        simp [hmm, e0, e1, e5, e6, hw, -AV.cells]
        exact ⟨l.length - (j + 1), by omega, j + 1, by omega, rfl, rfl, by rw [hnx]; exact hBv, hF1, by omega⟩

theorem p_rwithin2 {k : SK} {l : List Int} {n : Int} (hl : l.length ≤ 140737488355328) : PCall Tryz.prog 75 [.sl k 1 (intCells l), i64 n] (bl (argsB n l)) := by
  refine PCall.of fun N => acall mixed c_bobbinref11_within (by simp) ?_
  obtain ⟨B, hB⟩ : ∃ B, argsB n l = B := ⟨_, rfl⟩
  rw [hB]
  simp [a_bobbinref11_within]
  refine run_loop (fun m s => ∃ j, j ≤ l.length ∧ m = l.length - j ∧ s.A 0 = .sl k 1 (intCells l) ∧ s.A 1 = i64 n ∧ s.A 5 = i64 j ∧ ∀ i (hi : i < l.length), i < j → within l[i] n = true) l.length ?_ ?_
  · exact ⟨0, by omega, by omega, by simp, by simp, by simp, fun i _ h => by omega⟩
  · rintro m A1 H1 N1 ⟨j, hj, rfl, e0, e1, e5, hok⟩
    simp only at e0 e1 e5
    have hw : IntKind.i64.wrap ((j : Int) + 1) = ((j + 1 : Nat) : Int) := by rw [wrap_i64 (by omega) (by omega)]; rfl
    by_cases hje : j = l.length
    · subst hje
      have : B = true := by rw [← hB]; exact zall_iff.2 fun i hi => hok i hi hi
      simp [a_bobbinref11_withinb1, e0, e1, e5, intCells_len, this]
      exact .free rfl
    · have hlt : j < l.length := by omega
      obtain ⟨v, hv⟩ : ∃ v, l[j] = v := ⟨_, rfl⟩
      have hix : aindex 1 (.sl k 1 (intCells l)) (i64 (j : Nat)) = some (.ip [i64 v] 0) := aindex_sl (by omega) (by simp [intCells, hlt, hv])
      by_cases h1 : v < 0
      · have : B = false := by rw [← hB]; exact zall_bad hlt (by rw [hv]; simp [within]; omega)
        simp [a_bobbinref11_withinb1, e0, e1, e5, intCells_len, hlt, hix, h1, this]
        exact .free rfl
      · by_cases h2 : n ≤ v
        · have : B = false := by rw [← hB]; exact zall_bad hlt (by rw [hv]; simp [within]; omega)
          simp [a_bobbinref11_withinb1, e0, e1, e5, intCells_len, hlt, hix, h1, h2, this]
          exact .free rfl
        · simp [a_bobbinref11_withinb1, e0, e1, e5, intCells_len, hlt, hix, h1, h2, hw]
          refine ⟨l.length - (j + 1), by omega, j + 1, by omega, rfl, rfl, fun i hi hij => ?_⟩
          by_cases hij2 : i = j
          · subst hij2; rw [hv]; simp [within]; omega
          · exact hok i hi (by omega)

theorem p_rmayIns2 {x : Ins} {regs : Int} (hx : x.Ok) (hl : x.args.length ≤ 999999999990) : PCall Tryz.prog 72 [.agg x.cells, i64 regs] (bl (insB regs x)) := by
  rw [← insR_eq]
  refine PCall.of fun N => acallF mixed c_bobbinref11_mayIns (by simp) fun hF => ?_
  obtain ⟨B, hB⟩ : ∃ B, insR regs x = B := ⟨_, rfl⟩
  rw [hB]
  unfold insR at hB
  have key : ∀ y : Ins, nAsk x = y → ¬ ((x.op = 10 ∧ (x.n < 0 ∨ 8 < x.args.length)) ∨ ((5 ≤ x.op ∧ x.op ≤ 8) ∧ x.n < 0)) → PCall Tryz.prog 39 [.agg [.sl .exact 3 [[str ⟨#[]⟩, i64 0, i64 0]], .sl .exact 1 [[str ⟨#[]⟩]], .sl .exact 5 [[str ⟨#[]⟩, bl false, i64 0, i64 regs, .sl .exact 6 [[u8 0, i64 0, i64 0, i64 0, i64 0, .sl .nil 0 []]]], [str ⟨#[]⟩, bl false, i64 x.args.length, i64 0, .sl .nil 0 []]]], i64 0, .agg y.cells] (bl B) := fun y hy hc => by
    subst hy
    have hyo : (nAsk x).Ok := ⟨hx.op0, hx.op1, hx.len, hx.hz⟩
    have hP := (p_refMayIns (p := ⟨.exact, .exact, .exact, [⟨emp, 0, 0⟩], [emp], [⟨emp, false, 0, regs, .exact, [zIns]⟩, ⟨emp, false, x.args.length, 0, .nil, []⟩]⟩) (n := 0) hyo hl).nrm (args := [.agg [.sl .exact 3 [[str ⟨#[]⟩, i64 0, i64 0]], .sl .exact 1 [[str ⟨#[]⟩]], .sl .exact 5 [[str ⟨#[]⟩, bl false, i64 0, i64 regs, .sl .exact 6 [[u8 0, i64 0, i64 0, i64 0, i64 0, .sl .nil 0 []]]], [str ⟨#[]⟩, bl false, i64 x.args.length, i64 0, .sl .nil 0 []]]], i64 0, .agg (nAsk x).cells]) rfl
    have hans : (within 0 (2 : Nat) && mayB ⟨.exact, .exact, .exact, [⟨emp, 0, 0⟩], [emp], [⟨emp, false, 0, regs, .exact, [zIns]⟩, ⟨emp, false, x.args.length, 0, .nil, []⟩]⟩ ⟨emp, false, 0, regs, .exact, [zIns]⟩ (nAsk x)) = B := by
      rw [show within 0 ((2 : Nat) : Int) = true from rfl, Bool.true_and, ← hB, decide_eq_false hc]
      exact mayB_congr rfl rfl rfl rfl rfl
    rw [← hans]
    exact hP
  have h2 : ∀ i : AObj, ((noHeap.set N i) : AHeap) N = some i := fun i => by simp [AHeap.set]
  by_cases c1 : x.op = 10
  · by_cases c2 : x.n < 0
    · have : B = false := by rw [← hB, decide_eq_true (.inl ⟨c1, .inl c2⟩)]; rfl
      simp [a_bobbinref11_mayIns, splice, show ¬ N = N + 1 + 1 by omega, show ¬ N = N + 1 by omega, show ¬ N + 1 = N + 1 + 1 by omega, show ¬ N + 1 + 1 = N by omega, c1, c2, this, intCells_len]
      exact .free rfl
    · by_cases c3 : 8 < x.args.length
      · have c3' : (8 : Int) < x.args.length := by omega
        have : B = false := by rw [← hB, decide_eq_true (.inl ⟨c1, .inr c3⟩)]; rfl
        simp [a_bobbinref11_mayIns, splice, show ¬ N = N + 1 + 1 by omega, show ¬ N = N + 1 by omega, show ¬ N + 1 = N + 1 + 1 by omega, show ¬ N + 1 + 1 = N by omega, c1, c2, c3', this, intCells_len]
        exact .free rfl
      · have c3' : ¬ (8 : Int) < x.args.length := by omega
        have hna : nAsk x = {x with n := 1} := by unfold nAsk; rw [if_neg (by omega), if_pos c1]
        have hP := key {x with n := 1} hna (by omega)
        simp [a_bobbinref11_mayIns, splice, show ¬ N = N + 1 + 1 by omega, show ¬ N = N + 1 by omega, show ¬ N + 1 = N + 1 + 1 by omega, show ¬ N + 1 + 1 = N by omega, c1, c2, c3', intCells_len, Ins.cells]
        simp [Ins.cells, c1] at hP
        refine hP.acall ?_
        simp
        exact .free rfl
  · by_cases c2 : 5 ≤ x.op
    · by_cases c3 : x.op ≤ 8
      · by_cases c4 : x.n < 0
        · have : B = false := by rw [← hB, decide_eq_true (.inr ⟨⟨c2, c3⟩, c4⟩)]; rfl
          simp [a_bobbinref11_mayIns, splice, show ¬ N = N + 1 + 1 by omega, show ¬ N = N + 1 by omega, show ¬ N + 1 = N + 1 + 1 by omega, show ¬ N + 1 + 1 = N by omega, c1, c2, c3, c4, this, intCells_len]
          exact .free rfl
        · have hna : nAsk x = {x with n := 0} := by unfold nAsk; rw [if_pos (by omega)]
          have hP := key {x with n := 0} hna (by omega)
          simp [a_bobbinref11_mayIns, splice, show ¬ N = N + 1 + 1 by omega, show ¬ N = N + 1 by omega, show ¬ N + 1 = N + 1 + 1 by omega, show ¬ N + 1 + 1 = N by omega, c1, c2, c3, c4, intCells_len, Ins.cells]
          simp [Ins.cells] at hP
          refine hP.acall ?_
          simp
          exact .free rfl
      · have hna : nAsk x = x := by unfold nAsk; rw [if_neg (by omega), if_neg (by omega)]
        have hP := key x hna (by omega)
        simp [a_bobbinref11_mayIns, splice, show ¬ N = N + 1 + 1 by omega, show ¬ N = N + 1 by omega, show ¬ N + 1 = N + 1 + 1 by omega, show ¬ N + 1 + 1 = N by omega, c1, c2, c3, intCells_len]
        refine hP.acall ?_
        simp
        exact .free rfl
    · have hna : nAsk x = x := by unfold nAsk; rw [if_neg (by omega), if_neg (by omega)]
      have hP := key x hna (by omega)
      simp [a_bobbinref11_mayIns, splice, show ¬ N = N + 1 + 1 by omega, show ¬ N = N + 1 by omega, show ¬ N + 1 = N + 1 + 1 by omega, show ¬ N + 1 + 1 = N by omega, c1, c2, intCells_len]
      refine hP.acall ?_
      simp
      exact .free rfl
end Go.Proofs.YtcoepjbipbihfaaGreatDoor

/- flow: which graphs may be, by the reference. -/
namespace Go.Proofs.YtcoepjbipbihfaaGreatDoor
set_option linter.unusedSimpArgs false
set_option linter.unusedVariables false
open Go Go.Fw

section
variable {l : List BlkV} {k : SK} {b : BlkV} {regs : Int} {n o : Nat} {A : Nat → AV} {H : AHeap} {N : Nat} {fs : List Fr} {Q : Post}

theorem rblock_b2 (hb : b.Ok) (hfew : ∀ x ∈ b.code, x.args.length ≤ 1500) (h2 : A 2 = i64 regs) (h7 : A 7 = .mp o 0) (ho : H o = some (.blk b.cells)) (h8 : A 8 = i64 0)
    (hk : codeB regs b.code = true → ∀ A', (∀ t ∈ [0, 1, 2, 7], A' t = A t) → onward Tryz.prog fs Q (.exit 0) ⟨A', H, N⟩)
    (hr : codeB regs b.code = false → ∀ A', A' 6 = bl false → onward Tryz.prog fs Q .ret ⟨A', H, N⟩) : run Tryz.prog (.loop a_bobbinref11_blockb2) fs Q ⟨A, H, N⟩ := by
  have hcl := hb.cl
  refine run_loop (fun m s => ∃ j, j ≤ b.code.length ∧ m = b.code.length - j ∧ (∀ t ∈ [0, 1, 2, 7], s.A t = A t) ∧ s.A 8 = i64 j ∧ s.H = H ∧ s.N = N ∧ ∀ i (hi : i < b.code.length), i < j → (insB regs b.code[i] && !(endsB b.code[i].op && decide (i + 1 < b.code.length))) = true) b.code.length ?_ ?_
  · exact ⟨0, by omega, by omega, fun _ _ => rfl, h8, rfl, rfl, fun i _ h => by omega⟩
  · rintro m A1 H1 N1 ⟨j, hj, rfl, hA, e8, eH, eN, hok⟩
    simp only at hA e8 eH eN
    subst eH; subst eN
    have a0 := hA 0 (by simp)
    have a1 := hA 1 (by simp)
    have a2 := hA 2 (by simp)
    have a7 := hA 7 (by simp)
    have hw : IntKind.i64.wrap ((j : Int) + 1) = ((j + 1 : Nat) : Int) := by rw [wrap_i64 (by omega) (by omega)]; rfl
    by_cases hje : j = b.code.length
    · subst hje
      have hall : codeB regs b.code = true := zall_iff.2 fun i hi => hok i hi hi
      simp [a_bobbinref11_blockb2, a7, h7, ho, e8]
      refine hk hall _ ?_
      simp [a0, a1, a2, a7, h7]
    · have hlt : j < b.code.length := by omega
      obtain ⟨x, hx⟩ : ∃ x, b.code[j] = x := ⟨_, rfl⟩
      have hxm : x ∈ b.code := by rw [← hx]; exact List.getElem_mem hlt
      have hxo := (hb.al x hxm).1
      have hix : aindex 6 (.sl b.ck 6 (codeCells b.code)) (i64 (j : Nat)) = some (.ip x.cells 0) := aindex_sl (by omega) (by simp [codeCells, hlt, hx])
      have hsub : IntKind.i64.wrap ((b.code.length : Int) - 1) = (b.code.length : Int) - 1 := by rw [wrap_i64 (by omega) (by omega)]
      have next : (insB regs x && !(endsB x.op && decide (j + 1 < b.code.length))) = true → ∀ i (hi : i < b.code.length), i < j + 1 → (insB regs b.code[i] && !(endsB b.code[i].op && decide (i + 1 < b.code.length))) = true := fun hq i hi hij => by
        by_cases hij2 : i = j
        · subst hij2; rw [hx]; exact hq
        · exact hok i hi (by omega)
      have bad : (insB regs x && !(endsB x.op && decide (j + 1 < b.code.length))) = false → codeB regs b.code = false := fun hq => zall_bad hlt (by rw [hx]; exact hq)
      simp [a_bobbinref11_blockb2, a2, h2, a7, h7, ho, e8, hlt, hix]
      refine (p_rmayIns2 hxo (by have := hfew x hxm; omega)).acall ?_
      cases hi : insB regs x with
      | false =>
        simp
        exact hr (bad (by rw [hi]; rfl)) _ (by simp)
      | true =>
        by_cases hl : (j : Int) < (b.code.length : Int) - 1
        · simp [a7, h7, ho, e8, hsub, hl, hix]
          refine (p_rends x.op).acall ?_
          cases he : endsB x.op with
          | true =>
            simp
            exact hr (bad (by rw [hi, he, decide_eq_true (by omega)]; rfl)) _ (by simp)
          | false =>
            simp [a0, a1, a2, h2, a7, h7, e8, hw]
            refine ⟨b.code.length - (j + 1), by omega, j + 1, by omega, rfl, rfl, ?_⟩
            have := next (by rw [hi, he]; rfl)
            simpa using this
        · simp [a0, a1, a2, h2, a7, h7, ho, e8, hsub, hl, hw]
          refine ⟨b.code.length - (j + 1), by omega, j + 1, by omega, rfl, rfl, ?_⟩
          have := next (by rw [hi, decide_eq_false (by omega)]; simp)
          simpa using this

theorem rblock_b1 (hb : b.Ok) (h1 : A 1 = i64 n) (h2 : A 2 = i64 regs) (h7 : A 7 = .mp o 0) (ho : H o = some (.blk b.cells)) (h10 : A 10 = i64 0)
    (hk : (zall b.phis fun p _ => !decide (n = 0) && phiB regs b.fro.length p) = true → ∀ A', onward Tryz.prog fs Q (.exit 2) ⟨A', H, N⟩)
    (hr : (zall b.phis fun p _ => !decide (n = 0) && phiB regs b.fro.length p) = false → ∀ A', A' 6 = bl false → onward Tryz.prog fs Q .ret ⟨A', H, N⟩) : run Tryz.prog (.loop a_bobbinref11_blockb1) fs Q ⟨A, H, N⟩ := by
  have hpl := hb.pl
  refine run_loop (fun m s => ∃ j, j ≤ b.phis.length ∧ m = b.phis.length - j ∧ s.A 1 = i64 n ∧ s.A 2 = i64 regs ∧ s.A 7 = .mp o 0 ∧ s.A 10 = i64 j ∧ s.H = H ∧ s.N = N ∧ ∀ i (hi : i < b.phis.length), i < j → (!decide (n = 0) && phiB regs b.fro.length b.phis[i]) = true) b.phis.length ?_ ?_
  · exact ⟨0, by omega, by omega, h1, h2, h7, h10, rfl, rfl, fun i _ h => by omega⟩
  · rintro m A1 H1 N1 ⟨j, hj, rfl, e1, e2, e7, e10, eH, eN, hok⟩
    simp only at e1 e2 e7 e10 eH eN
    subst eH; subst eN
    have hw : IntKind.i64.wrap ((j : Int) + 1) = ((j + 1 : Nat) : Int) := by rw [wrap_i64 (by omega) (by omega)]; rfl
    by_cases hje : j = b.phis.length
    · subst hje
      simp [a_bobbinref11_blockb1, e7, ho, e10]
      exact hk (zall_iff.2 fun i hi => hok i hi hi) _
    · have hlt : j < b.phis.length := by omega
      obtain ⟨p, hp⟩ : ∃ p, b.phis[j] = p := ⟨_, rfl⟩
      have hpo := hb.ph p (by rw [← hp]; exact List.getElem_mem hlt)
      have hpa := hpo.al
      have hix : aindex 2 (.sl b.pk 2 (phiCells b.phis)) (i64 (j : Nat)) = some (.ip p.cells 0) := aindex_sl (by omega) (by simp [phiCells, hlt, hp])
      have bad : (!decide (n = 0) && phiB regs b.fro.length p) = false → (zall b.phis fun p _ => !decide (n = 0) && phiB regs b.fro.length p) = false := fun hq => zall_bad hlt (by rw [hp]; exact hq)
      by_cases hn : n = 0
      · have hn' : (n : Int) = 0 := by omega
        simp [a_bobbinref11_blockb1, e1, e2, e7, ho, e10, hlt, hn]
        exact hr (bad (by rw [decide_eq_true hn]; rfl)) _ (by simp)
      · have hn' : ¬ (n : Int) = 0 := by omega
        simp [a_bobbinref11_blockb1, e1, e2, e7, ho, e10, hlt, hn, hix]
        refine (p_rwithin2 (k := .exact) (l := [p.r]) (n := regs) (by simp)).acall ?_
        have hw1 : argsB regs [p.r] = within p.r regs := by simp [argsB, zall]
        rw [hw1]
        cases hwr : within p.r regs with
        | false =>
          simp
          exact hr (bad (by rw [decide_eq_false hn, phiB, hwr]; rfl)) _ (by simp)
        | true =>
          simp [e2, e7, ho, e10, hix]
          refine (p_rwithin2 (k := p.k) (l := p.args) (n := regs) hpa).acall ?_
          cases hwa : argsB regs p.args with
          | false =>
            simp
            exact hr (bad (by rw [decide_eq_false hn, phiB, hwr, hwa]; simp)) _ (by simp)
          | true =>
            by_cases hl : p.args.length = b.fro.length
            · simp [e1, e2, e7, ho, e10, hix, intCells_len, hl, hw]
              refine ⟨b.phis.length - (j + 1), by omega, j + 1, by omega, rfl, rfl, fun i hi hij => ?_⟩
              by_cases hij2 : i = j
              · subst hij2; rw [hp]; simp [hn, phiB, hwr, hwa, hl]
              · have := hok i hi (by omega); simpa [hn] using this
            · have hl' : ¬ (p.args.length : Int) = b.fro.length := by omega
              simp [e1, e2, e7, ho, e10, hix, intCells_len, hl']
              exact hr (bad (by rw [phiB, decide_eq_false hl]; simp)) _ (by simp)
end

theorem p_rblock {l : List BlkV} {k : SK} {n : Nat} {regs : Int} (hm : l.length ≤ 1000000000) (hn : n < l.length) (hb : l[n].Ok) (hfew : ∀ x ∈ l[n].code, x.args.length ≤ 1500) :
    PCall Tryz.prog 28 [.sl k 4 (blkCells l), i64 n, i64 regs] (bl (refBlk l regs l[n] n)) := by
  obtain ⟨b, hbe⟩ : ∃ b, l[n] = b := ⟨_, rfl⟩
  rw [hbe] at hb hfew ⊢
  have htl := hb.tl
  refine PCall.of fun N => acallF mixed c_bobbinref11_block (by simp) fun hF => ?_
  obtain ⟨B, hB⟩ : ∃ B, refBlk l regs b n = B := ⟨_, rfl⟩
  rw [hB]
  unfold refBlk at hB
  have hix : aindex 4 (.sl k 4 (blkCells l)) (i64 (n : Nat)) = some (.ip b.cells 0) := aindex_sl (by omega) (by simp [blkCells, hn, hbe])
  have hsx : splice 0 b.cells [AV.sl .nil 0 [], AV.sl .nil 0 [], AV.sl .nil 0 [], AV.sl .nil 0 []] = b.cells := splice_full (by simp)
  unfold a_bobbinref11_block
  obtain ⟨_, er⟩ : ∃ c, a_rb_rest = c := ⟨_, rfl⟩
  rw [er]
  obtain ⟨_, e2⟩ : ∃ c, a_bobbinref11_blockb2 = c := ⟨_, rfl⟩
  rw [e2]
  simp [hix, hsx]
  rw [← e2]
  refine rblock_b2 (b := b) (regs := regs) (o := N) hb hfew (by simp) (by simp) (by simp) (by simp) (fun hc A1 hA1 => ?_) (fun hc A1 h6 => ?_)
  · rw [hc, Bool.true_and] at hB
    have g0 := hA1 0 (by simp)
    have g1 := hA1 1 (by simp)
    have g2 := hA1 2 (by simp)
    have g7 := hA1 7 (by simp)
    simp at g0 g1 g2 g7
    simp [g7]
    refine (p_rlast hb).acall ?_
    have fin1 : ∀ (t : Nat) (A : Nat → AV), toN b.code = t → A 0 = .sl k 4 (blkCells l) → A 1 = i64 n → A 2 = i64 regs → A 7 = .mp N 0 → A 9 = i64 t → run Tryz.prog a_rb_rest [] (fin [.tmp 6] fun r' H' x => View H' r' (bl B)) ⟨A, noHeap.set N (.blk b.cells), N + 1⟩ := fun t A ht h0 h1 h2 h7 h9 => by
      unfold a_rb_rest
      obtain ⟨_, e1⟩ : ∃ c, a_bobbinref11_blockb1 = c := ⟨_, rfl⟩
      rw [e1]
      by_cases htt : b.to.length = t
      · rw [decide_eq_true (by rw [ht]; exact htt), Bool.true_and] at hB
        simp [h0, h1, h2, h7, h9, intCells_len, htt]
        refine (p_rwithin2 (k := b.tk) (l := b.to) (n := (l.length : Int)) htl).acall ?_
        cases hwt : argsB l.length b.to with
        | false =>
          rw [hwt, Bool.false_and] at hB
          simp [← hB]
          exact .free rfl
        | true =>
          rw [hwt, Bool.true_and] at hB
          simp
          rw [← e1]
          refine rblock_b1 (b := b) (n := n) (regs := regs) (o := N) hb (by simp [h1]) (by simp [h2]) (by simp [h7]) (by simp) (by simp) (fun hp A2 => ?_) (fun hp A2 h6 => ?_)
          · rw [hp] at hB
            simp [← hB]
            exact .free rfl
          · rw [hp] at hB
            simp [h6, ← hB]
            exact .free rfl
      · have htt' : ¬ (b.to.length : Int) = t := by omega
        rw [decide_eq_false (by rw [ht]; exact htt), Bool.false_and] at hB
        simp [h0, h1, h2, h7, h9, intCells_len, htt', ← hB]
        exact .free rfl
    have htn := toN_last b.code
    by_cases o12 : lastOp b.code = 12
    · rw [if_pos o12] at htn
      simp [o12, g7]
      refine (p_rlast hb).acall ?_
      simp [o12]
      rw [← er]
      refine fin1 2 _ htn ?_ ?_ ?_ ?_ ?_ <;> simp [g0, g1, g2, g7]
    · rw [if_neg o12] at htn
      simp [o12, g7]
      refine (p_rlast hb).acall ?_
      by_cases o13 : lastOp b.code = 13
      · rw [if_pos o13] at htn
        simp [o13]
        rw [← er]
        refine fin1 0 _ htn ?_ ?_ ?_ ?_ ?_ <;> simp [g0, g1, g2, g7]
      · rw [if_neg o13] at htn
        simp [o13]
        rw [← er]
        refine fin1 1 _ htn ?_ ?_ ?_ ?_ ?_ <;> simp [g0, g1, g2, g7]
  · have : B = false := by rw [← hB, hc]; rfl
    simp [h6, this]
    exact .free rfl
end Go.Proofs.YtcoepjbipbihfaaGreatDoor

/- flow: which graphs may be, by the reference: the walk. -/
namespace Go.Proofs.YtcoepjbipbihfaaGreatDoor
set_option linter.unusedSimpArgs false
set_option linter.unusedVariables false
open Go Go.Fw

section
variable {g : GrV} {n : Nat} {A : Nat → AV} {H : AHeap} {N : Nat} {fs : List Fr} {Q : Post}
theorem rmay_b1 (hm : g.blocks.length ≤ 1000000000) (hR : Round g.blocks) (hn : n < g.blocks.length) (h1 : A 1 = .ip g.cells 0) (h3 : A 3 = i64 g.blocks.length) (h5 : A 5 = i64 n) (h6 : A 6 = i64 n) (h7 : A 7 = i64 0)
    (hk : circ g.blocks n g.blocks.length n = false → ∀ A', A' 1 = A 1 → A' 3 = A 3 → A' 5 = A 5 → onward Tryz.prog fs Q (.exit 4) ⟨A', H, N⟩)
    (hr : circ g.blocks n g.blocks.length n = true → ∀ A', A' 2 = bl false → onward Tryz.prog fs Q .ret ⟨A', H, N⟩) : run Tryz.prog (.loop a_bobbinref11_Mayb1) fs Q ⟨A, H, N⟩ := by
  obtain ⟨C, hC⟩ : ∃ C, circ g.blocks n g.blocks.length n = C := ⟨_, rfl⟩
  rw [hC] at hk hr
  refine run_loop (fun m s => ∃ (j i : Nat), j ≤ g.blocks.length ∧ m = g.blocks.length - j ∧ i < g.blocks.length ∧ s.A 1 = .ip g.cells 0 ∧ s.A 3 = i64 g.blocks.length ∧ s.A 5 = i64 n ∧ s.A 6 = i64 i ∧ s.A 7 = i64 j ∧ s.H = H ∧ s.N = N ∧ circ g.blocks n (g.blocks.length - j) i = C) g.blocks.length ?_ ?_
  · exact ⟨0, n, by omega, by omega, hn, h1, h3, h5, h6, h7, rfl, rfl, by simpa using hC⟩
  · rintro m A1 H1 N1 ⟨j, i, hj, rfl, hi, e1, e3, e5, e6, e7, eH, eN, hc⟩
    simp only at e1 e3 e5 e6 e7 eH eN
    subst eH; subst eN
    have hw : IntKind.i64.wrap ((j : Int) + 1) = ((j + 1 : Nat) : Int) := by rw [wrap_i64 (by omega) (by omega)]; rfl
    by_cases hje : j = g.blocks.length
    · subst hje
      rw [Nat.sub_self] at hc
      simp [a_bobbinref11_Mayb1, e1, e3, e5, e6, e7]
      exact hk hc.symm _ (by simp [e1, h1]) (by simp [e3, h3]) (by simp [e5, h5])
    · have hlt : j < g.blocks.length := by omega
      rw [show g.blocks.length - j = (g.blocks.length - (j + 1)) + 1 by omega, circ_step hi] at hc
      obtain ⟨b, hb⟩ : ∃ b, g.blocks[i] = b := ⟨_, rfl⟩
      have hbm : b ∈ g.blocks := by rw [← hb]; exact List.getElem_mem hi
      have hix : aindex 4 (.sl g.k 4 (blkCells g.blocks)) (i64 (i : Nat)) = some (.ip b.cells 0) := aindex_sl (by omega) (by simp [blkCells, hi, hb])
      rw [hb] at hc
      cases hcode : b.code with
      | cons x r =>
        rw [hcode] at hc
        have hp : ¬ ((r.length : Int) + 1 = 0) := by omega
        simp [a_bobbinref11_Mayb1, e1, e3, e5, e6, e7, hlt, hix, hcode, hp]
        exact hk hc.symm _ (by simp [e1, h1]) (by simp [e3, h3]) (by simp [e5, h5])
      | nil =>
        rw [hcode] at hc
        cases hto : b.to with
        | nil => exact absurd hto ((hR b hbm).1 hcode)
        | cons t r =>
          rw [hto] at hc
          have ht := (hR b hbm).2 t (by rw [hto]; simp)
          obtain ⟨tn, rfl⟩ : ∃ tn : Nat, t = (tn : Int) := ⟨t.toNat, by omega⟩
          have hix2 : aindex 1 (.sl b.tk 1 (intCells b.to)) (i64 0) = some (.ip [i64 tn] 0) := aindex_sl (n := 0) (by omega) (by rw [hto]; rfl)
          by_cases htn : tn = n
          · subst htn
            have : C = true := by rw [← hc]; simp
            simp [a_bobbinref11_Mayb1, e1, e3, e5, e6, e7, hlt, hix, hcode, hix2]
            exact hr this _ (by simp)
          · have htn' : ¬ (tn : Int) = n := by omega
            have hc' : circ g.blocks n (g.blocks.length - (j + 1)) tn = C := by
              have := hc
              simp only [htn', if_false] at this
              exact this
            simp [a_bobbinref11_Mayb1, e1, e3, e5, e6, e7, hlt, hix, hcode, hix2, htn', hw]
            exact ⟨g.blocks.length - (j + 1), by omega, j + 1, by omega, rfl, tn, by omega, rfl, rfl, hc'⟩

theorem rmay_b3 (hg : g.Ok) (hm : g.blocks.length ≤ 1000000000) (hfew : FewG g) (h1 : A 1 = .ip g.cells 0) (h3 : A 3 = i64 g.blocks.length) (h4 : A 4 = i64 0)
    (hk : (zall g.blocks fun b n => refBlk g.blocks g.regs b n) = true → ∀ A' H' N', A' 1 = A 1 → A' 3 = A 3 → onward Tryz.prog fs Q (.exit 0) ⟨A', H', N'⟩)
    (hr : (zall g.blocks fun b n => refBlk g.blocks g.regs b n) = false → ∀ A' H' N', A' 2 = bl false → onward Tryz.prog fs Q .ret ⟨A', H', N'⟩) : run Tryz.prog (.loop a_bobbinref11_Mayb3) fs Q ⟨A, H, N⟩ := by
  refine run_loop (fun m s => ∃ j, j ≤ g.blocks.length ∧ m = g.blocks.length - j ∧ s.A 1 = .ip g.cells 0 ∧ s.A 3 = i64 g.blocks.length ∧ s.A 4 = i64 j ∧ ∀ i (hi : i < g.blocks.length), i < j → refBlk g.blocks g.regs g.blocks[i] i = true) g.blocks.length ?_ ?_
  · exact ⟨0, by omega, by omega, h1, h3, h4, fun i _ h => by omega⟩
  · rintro m A1 H1 N1 ⟨j, hj, rfl, e1, e3, e4, hok⟩
    simp only at e1 e3 e4
    have hw : IntKind.i64.wrap ((j : Int) + 1) = ((j + 1 : Nat) : Int) := by rw [wrap_i64 (by omega) (by omega)]; rfl
    by_cases hje : j = g.blocks.length
    · subst hje
      simp [a_bobbinref11_Mayb3, e1, e3, e4]
      exact hk (zall_iff.2 fun i hi => hok i hi hi) _ _ _ (by simp [e1, h1]) (by simp [e3, h3])
    · have hlt : j < g.blocks.length := by omega
      simp [a_bobbinref11_Mayb3, e1, e3, e4, hlt]
      refine (p_rblock (k := g.k) (regs := g.regs) hm hlt (hg.ok _ (List.getElem_mem hlt)) (hfew _ (List.getElem_mem hlt))).acall ?_
      cases hv : refBlk g.blocks g.regs g.blocks[j] j with
      | false =>
        simp
        exact hr (zall_bad hlt hv) _ _ _ (by simp)
      | true =>
        simp [e1, e3, e4, hw]
        refine ⟨g.blocks.length - (j + 1), by omega, j + 1, by omega, rfl, rfl, fun i hi hij => ?_⟩
        by_cases hij2 : i = j
        · subst hij2; exact hv
        · exact hok i hi (by omega)
end

theorem round_of2 {g : GrV} (h : (zall g.blocks fun b n => refBlk g.blocks g.regs b n) = true) : Round g.blocks := fun b hb => by
  obtain ⟨i, hi, rfl⟩ := List.getElem_of_mem hb
  have := zall_iff.1 h i hi
  simp only [refBlk, Bool.and_eq_true, decide_eq_true_eq] at this
  refine ⟨fun hc ht => ?_, fun t ht => ?_⟩
  · have h3 := this.2.1
    rw [hc, ht] at h3
    simp [toN] at h3
  · obtain ⟨j, hj, rfl⟩ := List.getElem_of_mem ht
    have := zall_iff.1 this.2.2.1 j hj
    simpa [within] using this

def a_rMay_rest : ACode :=
  .seq (
   .seq (
    .ops [⟨some 4, .val (.val (.lit (.int .i64 0))), none⟩]) (
   .block 0 (
     .loop a_bobbinref11_Mayb3))) (
  .seq (
   .seq (
    .ops [⟨some 60, .fieldAddr 4 (.tmp 1), none⟩,
      ⟨some 61, .iload false 1 (.tmp 60), none⟩,
      ⟨some 62, .indexAddr 4 (.tmp 61) (.val (.lit (.int .i64 0))), none⟩,
      ⟨some 63, .fieldAddr 2 (.tmp 62), none⟩,
      ⟨some 64, .load false 1 (.tmp 63), none⟩,
      ⟨some 65, .len 1 (.tmp 64), none⟩,
      ⟨some 66, .bin .gtr .num (.tmp 65) (.val (.lit (.int .i64 0))), none⟩]) (
   .cond (.tmp 66) (
     .seq (
      .ops [⟨some 2, .val (.val (.lit (.bool false))), none⟩]) (
     .ret)) (
     .skip))) (
  .seq (
   .seq (
    .ops [⟨some 5, .val (.val (.lit (.int .i64 0))), none⟩]) (
   .block 2 (
     .loop a_bobbinref11_Mayb2))) (
  .seq (
   .ops [⟨some 2, .val (.val (.lit (.bool true))), none⟩]) (
  .ret))))

theorem p_rMay_g {g : GrV} (hg : g.Ok) (hfew : FewG g) : PCall Tryz.prog 9 [.agg g.cells] (bl (mayG g)) := by
  have hbl := hg.bl
  rw [← refG_eq]
  refine PCall.of fun N => acall mixed c_bobbinref11_May (by simp) ?_
  obtain ⟨B, hB⟩ : ∃ B, refG g = B := ⟨_, rfl⟩
  rw [hB]
  have hd : ∀ (h : ¬ (0 ≤ g.params ∧ g.params ≤ 8 ∧ ¬ (g.thread = true ∧ 0 < g.params) ∧ g.params ≤ g.regs ∧ g.regs ≤ 65536 ∧ 1 ≤ g.blocks.length ∧ g.blocks.length ≤ 32768)), B = false := fun h => by
    rw [← hB, refG, show headB g = false from decide_eq_false h]; rfl
  by_cases c1 : g.params < 0
  · have := hd (by omega)
    simp [a_bobbinref11_May, c1, this]; exact .free rfl
  by_cases c2 : 8 < g.params
  · have := hd (by omega)
    simp [a_bobbinref11_May, c1, c2, this]; exact .free rfl
  by_cases c3 : g.thread = true ∧ ¬ g.params = 0
  · have := hd (by intro h; exact h.2.2.1 ⟨c3.1, by omega⟩)
    simp [a_bobbinref11_May, c1, c2, c3.1, c3.2, this]; exact .free rfl
  have main : ∀ (th : Bool), g.thread = th → (th = true → g.params = 0) → run Tryz.prog a_bobbinref11_May [] (fin [.tmp 2] fun r' H' x => View H' r' (bl B)) ⟨argA [.agg g.cells], noHeap, N⟩ := fun th hth hdd => by
    by_cases c4 : g.regs < g.params
    · have := hd (by omega)
      cases th with
      | false => simp [a_bobbinref11_May, c1, c2, hth, c4, this]; exact .free rfl
      | true =>
        have c4' : g.regs < 0 := by rw [hdd rfl] at c4; exact c4
        simp [a_bobbinref11_May, c1, c2, hth, hdd rfl, c4', this]; exact .free rfl
    by_cases c5 : 65536 < g.regs
    · have := hd (by omega)
      cases th with
      | false => simp [a_bobbinref11_May, c1, c2, hth, c4, c5, this]; exact .free rfl
      | true =>
        have c4' : ¬ g.regs < 0 := by rw [hdd rfl] at c4; exact c4
        simp [a_bobbinref11_May, c1, c2, hth, hdd rfl, c4', c5, this]; exact .free rfl
    by_cases c6 : (g.blocks.length : Int) < 1
    · have := hd (by omega)
      cases th with
      | false => simp [a_bobbinref11_May, c1, c2, hth, c4, c5, c6, this]; exact .free rfl
      | true =>
        have c4' : ¬ g.regs < 0 := by rw [hdd rfl] at c4; exact c4
        simp [a_bobbinref11_May, c1, c2, hth, hdd rfl, c4', c5, c6, this]; exact .free rfl
    by_cases c7 : (32768 : Int) < g.blocks.length
    · have := hd (by omega)
      cases th with
      | false => simp [a_bobbinref11_May, c1, c2, hth, c4, c5, c6, c7, this]; exact .free rfl
      | true =>
        have c4' : ¬ g.regs < 0 := by rw [hdd rfl] at c4; exact c4
        simp [a_bobbinref11_May, c1, c2, hth, hdd rfl, c4', c5, c6, c7, this]; exact .free rfl
    have hhead : headB g = true := decide_eq_true ⟨by omega, by omega, fun h => c3 ⟨h.1, by omega⟩, by omega, by omega, by omega, by omega⟩
    unfold refG at hB
    rw [hhead, Bool.true_and] at hB
    obtain ⟨b0, r0, hl0⟩ : ∃ b r, g.blocks = b :: r := by
      cases hgb : g.blocks with
      | nil => rw [hgb] at c6; simp at c6
      | cons b r => exact ⟨b, r, rfl⟩
    have hix0 : aindex 4 (.sl g.k 4 (blkCells g.blocks)) (i64 0) = some (.ip b0.cells 0) := aindex_sl (n := 0) (by omega) (by rw [hl0]; rfl)
    have hnf : noFro g.blocks = b0.fro.isEmpty := by rw [hl0]; rfl
    have rest : ∀ (A : Nat → AV) (H : AHeap) (N' : Nat), A 1 = .ip g.cells 0 → A 3 = i64 g.blocks.length → run Tryz.prog a_rMay_rest [] (fin [.tmp 2] fun r' H' x => View H' r' (bl B)) ⟨A, H, N'⟩ := fun A H N' h1 h3 => by
      unfold a_rMay_rest
      obtain ⟨_, e1⟩ : ∃ c, a_bobbinref11_Mayb1 = c := ⟨_, rfl⟩
      obtain ⟨_, e2⟩ : ∃ c, a_bobbinref11_Mayb2 = c := ⟨_, rfl⟩
      rw [e2]
      obtain ⟨_, e3⟩ : ∃ c, a_bobbinref11_Mayb3 = c := ⟨_, rfl⟩
      rw [e3]
      simp
      rw [← e3]
      refine rmay_b3 (g := g) hg (by omega) hfew (by simp [h1]) (by simp [h3]) (by simp) (fun hz A1 H1 N1 f1 f3 => ?_) (fun hz A1 H1 N1 f2 => ?_)
      · simp at f1 f3
        rw [h1] at f1
        rw [h3] at f3
        rw [hz, Bool.true_and] at hB
        have hR := round_of2 hz
        cases hfr : b0.fro with
        | cons a r =>
          have hp : (0 : Int) < (r.length : Int) + 1 := by omega
          have : B = false := by rw [← hB, hnf, hfr]; rfl
          simp [f1, hix0, hfr, intCells_len, hp, this]
          exact .free rfl
        | nil =>
          rw [hnf, hfr, show ([] : List Int).isEmpty = true from rfl, Bool.true_and] at hB
          simp [f1, hix0, hfr, intCells]
          rw [← e2]
          refine run_loop (fun m s => ∃ j, j ≤ g.blocks.length ∧ m = g.blocks.length - j ∧ s.A 1 = .ip g.cells 0 ∧ s.A 3 = i64 g.blocks.length ∧ s.A 5 = i64 j ∧ ∀ i (hi : i < g.blocks.length), i < j → (decide (g.blocks[i].fro = fromsL g.blocks i) && !circ g.blocks i g.blocks.length i) = true) g.blocks.length ?_ ?_
          · exact ⟨0, by omega, by omega, by simp [f1], by simp [f3], by simp, fun i _ h => by omega⟩
          · rintro m A2 H2 N2 ⟨j, hj, rfl, k1, k3, k5, hok⟩
            simp only at k1 k3 k5
            have hw : IntKind.i64.wrap ((j : Int) + 1) = ((j + 1 : Nat) : Int) := by rw [wrap_i64 (by omega) (by omega)]; rfl
            by_cases hje : j = g.blocks.length
            · subst hje
              have : B = true := by rw [← hB]; exact zall_iff.2 fun i hi => hok i hi hi
              simp [a_bobbinref11_Mayb2, k1, k3, k5, this]
              exact .free rfl
            · have hlt : j < g.blocks.length := by omega
              obtain ⟨b, hb⟩ : ∃ b, g.blocks[j] = b := ⟨_, rfl⟩
              have hbm : b ∈ g.blocks := by rw [← hb]; exact List.getElem_mem hlt
              have hix : aindex 4 (.sl g.k 4 (blkCells g.blocks)) (i64 (j : Nat)) = some (.ip b.cells 0) := aindex_sl (by omega) (by simp [blkCells, hlt, hb])
              have hgl := (hg.ok b hbm).gl
              unfold a_bobbinref11_Mayb2
              rw [e1]
              simp [k1, k3, k5, hlt, hix]
              refine ⟨_, p_rFroms (k := g.k) (l := g.blocks) (n := j) (by omega) (fun b hb => (hg.ok b hb).tl), ?_⟩
              simp
              refine (p_rints (la := b.fro) (lb := fromsL g.blocks j) (.sl _) (bsl_rd ⟨_, _, rfl⟩) (by have hmx : maxLen = 9223372036854775807 := rfl; omega) _).mono ?_
              rintro r H3 N3 ⟨rfl, rfl, rfl⟩
              by_cases hfe : b.fro = fromsL g.blocks j
              · simp [hfe, k5]
                rw [← e1]
                refine rmay_b1 (g := g) (n := j) (by omega) hR hlt ?_ ?_ ?_ ?_ ?_ (fun hc A3 q1 q3 q5 => ?_) (fun hc A3 q2 => ?_)
                · simp [k1]
                · simp [k3]
                · simp [k5]
                · simp
                · simp
                · simp [k1, k3, k5] at q1 q3 q5
                  simp [q1, q3, q5, hw]
                  refine ⟨g.blocks.length - (j + 1), by omega, j + 1, by omega, rfl, rfl, fun i hi hij => ?_⟩
                  by_cases hij2 : i = j
                  · subst hij2; rw [hb]; exact ⟨hfe, hc⟩
                  · have := hok i hi (by omega); simpa using this
                · have : B = false := by rw [← hB]; exact zall_bad hlt (by rw [hc]; simp)
                  simp [q2, this]
                  exact .free rfl
              · have : B = false := by rw [← hB]; exact zall_bad hlt (by rw [hb, decide_eq_false hfe]; rfl)
                simp [hfe, this]
                exact .free rfl
      · have : B = false := by rw [← hB, hz]; rfl
        simp [f2, this]
        exact .free rfl
    unfold a_bobbinref11_May
    change run Tryz.prog (.seq _ (.seq _ (.seq _ a_rMay_rest))) _ _ _
    obtain ⟨_, er⟩ : ∃ c, a_rMay_rest = c := ⟨_, rfl⟩
    rw [er]
    cases th with
    | false =>
      simp [c1, c2, hth, c4, c5, c6, c7]
      rw [← er]
      refine rest _ _ _ ?_ ?_ <;> simp
    | true =>
      have c4' : ¬ g.regs < 0 := by rw [hdd rfl] at c4; exact c4
      simp [c1, c2, hth, hdd rfl, c4', c5, c6, c7]
      rw [← er]
      refine rest _ _ _ ?_ ?_ <;> simp
  refine main g.thread rfl fun h => ?_
  by_cases h2 : g.params = 0
  · exact h2
  · exact absurd ⟨h, h2⟩ c3
end Go.Proofs.YtcoepjbipbihfaaGreatDoor
