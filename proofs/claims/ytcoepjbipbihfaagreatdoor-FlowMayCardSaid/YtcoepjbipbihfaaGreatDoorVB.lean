/- flow: which blocks may be, by the program. -/
import Derived.Test.YtcoepjbipbihfaaGreatDoorVX
namespace Go.Proofs.YtcoepjbipbihfaaGreatDoor
set_option linter.unusedSimpArgs false
set_option linter.unusedVariables false
open Go Go.Fw

theorem zall_all {α : Type} (l : List α) (p : α → Bool) : zall l (fun x _ => p x) = l.all p := by
  rw [Bool.eq_iff_iff, zall_iff, List.all_eq_true]
  constructor
  · intro h x hx
    obtain ⟨i, hi, rfl⟩ := List.getElem_of_mem hx
    exact h i hi
  · intro h i hi
    exact h _ (List.getElem_mem hi)
theorem any_no {α : Type} (l : List α) (p : α → Bool) : (l.map fun x => !p x).any id = !zall l (fun x _ => p x) := by rw [zall_all, any_not]
theorem PhiV.fr (x : PhiV) : freeL x.cells = true := by simp [PhiV.cells, freeL, AV.free, intCells_free]
theorem phiCells_free (l : List PhiV) : freeLL (phiCells l) = true := freeLL_map _ l fun x _ => x.fr
theorem Ins.frL (x : Ins) : freeL x.cells = true := by simp [AV.free, Ins.cells, freeL, intCells_free]
theorem codeCells_free (l : List Ins) : freeLL (codeCells l) = true := freeLL_map _ l fun x _ => x.frL
theorem BlkV.fr (x : BlkV) : freeL x.cells = true := by simp [BlkV.cells, freeL, AV.free, intCells_free, phiCells_free, codeCells_free]
theorem blkCells_free (l : List BlkV) : freeLL (blkCells l) = true := freeLL_map _ l fun x _ => x.fr
theorem GrV.fr (x : GrV) : freeL x.cells = true := by simp [GrV.cells, freeL, AV.free, blkCells_free]

theorem pc_Contains_Phi {k : SK} {l : List PhiV} {g : FuncId} {capt : List AV} {p : PhiV → Bool} (hl : l.length ≤ 140737488355328) (hg : ∀ x ∈ l, PCall Tryz.prog g (.agg x.cells :: capt) (bl (!p x))) :
    PCall Tryz.prog 67 [.sl k 2 (phiCells l), .fn (.func g) [] capt] (bl (!zall l fun x _ => p x)) := by
  have hm : maxLen = 9223372036854775807 := rfl
  refine PCall.of fun N => (p_ContainsFunc_Phi (H := noHeap) (.sl _) (phiCells_sz l) (ts := l.map fun x => !p x) (by simp) (by rw [phiCells_len]; omega) (fun i x b hx hb => ?_) N).mono ?_
  · simp only [phiCells, List.getElem?_map, Option.map_eq_some_iff] at hx hb
    obtain ⟨y, h1, rfl⟩ := hx
    obtain ⟨z, h2, rfl⟩ := hb
    rw [h1] at h2
    cases h2
    exact hg y (List.mem_of_getElem? h1)
  · rintro r H' N' ⟨rfl, _, _⟩
    rw [any_no]
    exact .free rfl
theorem pc_Contains_Block {k : SK} {l : List BlkV} {g : FuncId} {capt : List AV} {p : BlkV → Bool} (hl : l.length ≤ 140737488355328) (hg : ∀ x ∈ l, PCall Tryz.prog g (.agg x.cells :: capt) (bl (!p x))) :
    PCall Tryz.prog 23 [.sl k 4 (blkCells l), .fn (.func g) [] capt] (bl (!zall l fun x _ => p x)) := by
  have hm : maxLen = 9223372036854775807 := rfl
  refine PCall.of fun N => (p_ContainsFunc_Block (H := noHeap) (.sl _) (blkCells_sz l) (ts := l.map fun x => !p x) (by simp) (by rw [blkCells_len]; omega) (fun i x b hx hb => ?_) N).mono ?_
  · simp only [blkCells, List.getElem?_map, Option.map_eq_some_iff] at hx hb
    obtain ⟨y, h1, rfl⟩ := hx
    obtain ⟨z, h2, rfl⟩ := hb
    rw [h1] at h2
    cases h2
    exact hg y (List.mem_of_getElem? h1)
  · rintro r H' N' ⟨rfl, _, _⟩
    rw [any_no]
    exact .free rfl
theorem pc_Contains_Ins {k : SK} {l : List Ins} {g : FuncId} {capt : List AV} {p : Ins → Bool} (hl : l.length ≤ 140737488355328) (hg : ∀ x ∈ l, PCall Tryz.prog g (.agg x.cells :: capt) (bl (!p x))) :
    PCall Tryz.prog 35 [.sl k 6 (codeCells l), .fn (.func g) [] capt] (bl (!zall l fun x _ => p x)) := by
  have hm : maxLen = 9223372036854775807 := rfl
  refine PCall.of fun N => (p_ContainsFunc_Ins (H := noHeap) (.sl _) (codeCells_sz l) (ts := l.map fun x => !p x) (by simp) (by rw [codeCells_len]; omega) (fun i x b hx hb => ?_) N).mono ?_
  · simp only [codeCells, List.getElem?_map, Option.map_eq_some_iff] at hx hb
    obtain ⟨y, h1, rfl⟩ := hx
    obtain ⟨z, h2, rfl⟩ := hb
    rw [h1] at h2
    cases h2
    exact hg y (List.mem_of_getElem? h1)
  · rintro r H' N' ⟨rfl, _, _⟩
    rw [any_no]
    exact .free rfl
theorem pc_Contains_int {k : SK} {l : List Int} {g : FuncId} {capt : List AV} {p : Int → Bool} (hl : l.length ≤ 140737488355328) (hg : ∀ x ∈ l, PCall Tryz.prog g (i64 x :: capt) (bl (!p x))) :
    PCall Tryz.prog 69 [.sl k 1 (intCells l), .fn (.func g) [] capt] (bl (!zall l fun x _ => p x)) := by
  have hm : maxLen = 9223372036854775807 := rfl
  refine PCall.of fun N => (p_ContainsFunc_int (H := noHeap) (.sl _) (intCells_sz l) (ts := l.map fun x => !p x) (by simp [intCells]) (by rw [intCells_len]; omega) (fun i x b hx hb => ?_) N).mono ?_
  · simp only [intCells, List.getElem?_map, Option.map_eq_some_iff] at hx hb
    obtain ⟨y, h1, rfl⟩ := hx
    obtain ⟨z, h2, rfl⟩ := hb
    rw [h1] at h2
    cases h2
    exact hg y (List.mem_of_getElem? h1)
  · rintro r H' N' ⟨rfl, _, _⟩
    rw [any_no]
    exact .free rfl

theorem p_block1 (r regs : Int) : PCall Tryz.prog 66 [i64 r, .ip [i64 regs] 0] (bl (!within r regs)) := by
  refine PCall.of fun N => acall mixed c_flow_block_1 (by simp) ?_
  by_cases h1 : r < 0
  · have : within r regs = false := by simp [within]; omega
    simp [a_flow_block_1, h1, this]; exact .free rfl
  · by_cases h2 : regs ≤ r
    · have : within r regs = false := by simp [within]; omega
      simp [a_flow_block_1, h1, h2, this]; exact .free rfl
    · have : within r regs = true := by simp [within]; omega
      simp [a_flow_block_1, h1, h2, this]; exact .free rfl
def regF (regs : Int) : AV := .fn (.func 66) [] [.ip [i64 regs] 0]
theorem p_block2 {p : PhiV} {b : BlkV} {regs : Int} (hp : p.Ok) : PCall Tryz.prog 68 [.agg p.cells, .ip [regF regs] 0, .ip b.cells 0] (bl (!phiB regs b.fro.length p)) := by
  refine PCall.of fun N => acall mixed c_flow_block_2 (by simp) ?_
  obtain ⟨B, hB⟩ : ∃ B, phiB regs b.fro.length p = B := ⟨_, rfl⟩
  rw [hB]
  unfold phiB at hB
  simp [a_flow_block_2, regF]
  refine (p_block1 p.r regs).acall ?_
  cases hw : within p.r regs with
  | false =>
    rw [hw, Bool.false_and] at hB
    simp [← hB]
    exact .free rfl
  | true =>
    rw [hw, Bool.true_and] at hB
    by_cases hl : p.args.length = b.fro.length
    · rw [decide_eq_true hl, Bool.true_and] at hB
      simp [intCells_len, hl]
      refine (pc_Contains_int (p := fun r => within r regs) hp.al (fun x _ => p_block1 x regs)).acall ?_
      rw [show (zall p.args fun x _ => within x regs) = B from hB]
      simp
      exact .free rfl
    · rw [decide_eq_false hl, Bool.false_and] at hB
      simp [intCells_len, show ¬ (p.args.length : Int) = b.fro.length by omega, ← hB]
      exact .free rfl

theorem toN_more {code : List Ins} {j : Nat} (h : j < code.length) : toN (code.take (j + 1)) = if code[j].op = 12 then 2 else if code[j].op = 13 then 0 else 1 := by
  unfold toN
  rw [take_next h, List.getLast?_concat]
theorem toN_one {code : List Ins} {j : Nat} (h : j < code.length) (hc : ∀ i (hi : i < code.length), i < j → endsB code[i].op = true → code.length ≤ i + 1) : toN (code.take j) = 1 := by
  cases j with
  | zero => rfl
  | succ i =>
    rw [toN_more (by omega)]
    have hne : ¬ endsB (code[i]'(by omega)).op = true := fun h2 => by have := hc i (by omega) (by omega) h2; omega
    simp only [endsB, decide_eq_true_eq] at hne
    rw [if_neg (by omega), if_neg (by omega)]

theorem p_block {b : BlkV} {regs : Int} (hb : b.Ok) : PCall Tryz.prog 25 [.agg b.cells, i64 regs] (bl (blkB regs b)) := by
  have hcl := hb.cl
  have htl := hb.tl
  refine PCall.of fun N => acallF mixed c_flow_block (by simp) fun hF => ?_
  obtain ⟨B, hB⟩ : ∃ B, blkB regs b = B := ⟨_, rfl⟩
  rw [hB]
  unfold blkB at hB
  simp [a_flow_block]
  refine run_loop (fun m s => ∃ j, j ≤ b.code.length ∧ m = b.code.length - j ∧ s.A 2 = .ip b.cells 0 ∧ s.A 3 = .ip [i64 regs] 0 ∧ s.A 5 = i64 (toN (b.code.take j)) ∧ s.A 10 = .sl b.ck 6 (codeCells b.code) ∧ s.A 11 = i64 b.code.length ∧ s.A 12 = i64 j ∧ Fresh s.H s.N ∧ ∀ i (hi : i < b.code.length), i < j → insB regs b.code[i] = true ∧ (endsB b.code[i].op = true → b.code.length ≤ i + 1)) b.code.length ?_ ?_
  · exact ⟨0, by omega, by omega, by simp, by simp, by simp [toN], by simp, by simp, by simp, hF, fun i _ h => by omega⟩
  · rintro m A1 H1 N1 ⟨j, hj, rfl, e2, e3, e5, e10, e11, e12, hF1, hok⟩
    simp only at e2 e3 e5 e10 e11 e12 hF1
    by_cases hje : j = b.code.length
    · subst hje
      have hcode : codeB regs b.code = true := zall_iff.2 fun i hi => by
        obtain ⟨h1, h2⟩ := hok i hi hi
        rw [h1, Bool.true_and]
        cases he : endsB b.code[i].op with
        | false => rfl
        | true => have := h2 he; simp; omega
      rw [hcode, Bool.true_and] at hB
      rw [List.take_length] at e5
      simp [a_flow_blockb1, e2, e3, e5, e11, e12, intCells_len]
      by_cases ht : b.to.length = toN b.code
      · have ht' : (b.to.length : Int) = toN b.code := by omega
        rw [decide_eq_true ht, Bool.true_and] at hB
        simp [ht', e2]
        have hP := pc_Contains_Phi (k := b.pk) (p := phiB regs b.fro.length) (g := 68) (capt := [.ip [regF regs] 0, .ip b.cells 0]) hb.pl (fun x hx => p_block2 (hb.ph x hx))
        rw [hB] at hP
        refine PCall.seen hP rfl (views (.cons (.free (by simp [AV.free, phiCells_free])) (.cons (.fn' .nil (.cons ?_ (.cons (.free (by simp [AV.free, b.fr])) .nil))) .nil))) ?_
        · refine View.mp (cs := [regF regs]) (ds := [regF regs]) (by simp [regF]) rfl fun i c d hc hd => ?_
          rw [hc] at hd
          cases hd
          exact .free (freeL_get (show freeL [regF regs] = true from rfl) hc)
        · simp
          exact .free rfl
      · have ht' : ¬ (b.to.length : Int) = toN b.code := by omega
        rw [decide_eq_false ht, Bool.false_and] at hB
        simp [ht', ← hB]
        exact .free rfl
    · have hlt : j < b.code.length := by omega
      obtain ⟨x, hx⟩ : ∃ x, b.code[j] = x := ⟨_, rfl⟩
      have hxo := (hb.al x (by rw [← hx]; exact List.getElem_mem hlt)).1
      have hix : aindex 6 (.sl b.ck 6 (codeCells b.code)) (i64 (j : Nat)) = some (.ip x.cells 0) := aindex_sl (by omega) (by simp [codeCells, hlt, hx])
      have hsx : splice 0 x.cells [AV.lit (Value.int .u8 0), AV.lit (Value.int .i64 0), AV.lit (Value.int .i64 0), AV.lit (Value.int .i64 0), AV.lit (Value.int .i64 0), AV.sl .nil 0 []] = x.cells := splice_full (by simp)
      have hw : IntKind.i64.wrap ((j : Int) + 1) = ((j + 1 : Nat) : Int) := by rw [wrap_i64 (by omega) (by omega)]; rfl
      have hone := toN_one hlt (fun i hi hij => (hok i hi hij).2)
      have hmore := toN_more hlt
      rw [hx] at hmore
      rw [hone] at e5
      have bad : codeB regs b.code = false → B = false := fun h => by rw [← hB, h]; rfl
      simp [a_flow_blockb1, e2, e3, e5, e10, e11, e12, hlt, hix, hsx]
      refine (p_mayInsF hxo).acall ?_
      cases hi : insB regs x with
      | false =>
        have : B = false := bad (zall_bad hlt (by rw [hx, hi]; rfl))
        simp [this]
        exact .free rfl
      | true =>
        simp
        refine (p_ends x.op).acall ?_
        cases he : endsB x.op with
        | true =>
          by_cases hl : j + 1 < b.code.length
          · have hl' : (j : Int) + 1 < b.code.length := by omega
            have : B = false := bad (zall_bad hlt (by rw [hx, hi, he]; simp; omega))
            simp [e2, e12, hw, hl', this]
            exact .free rfl
          · have hl' : ¬ (j : Int) + 1 < b.code.length := by omega
            have next : ∀ i (hi : i < b.code.length), i < j + 1 → insB regs b.code[i] = true ∧ (endsB b.code[i].op = true → b.code.length ≤ i + 1) := fun i hi2 hij => by
              by_cases hij2 : i = j
              · subst hij2
                exact ⟨by rw [hx]; exact hi, fun _ => by omega⟩
              · exact hok i hi2 (by omega)
            by_cases o12 : x.op = 12
            · rw [if_pos o12] at hmore
              simp [e2, e3, e10, e11, e12, hw, hl', o12]
              exact ⟨b.code.length - (j + 1), by omega, j + 1, by omega, rfl, by rw [hmore]; rfl, rfl, hF1.set _, next⟩
            · rw [if_neg o12] at hmore
              by_cases o13 : x.op = 13
              · rw [if_pos o13] at hmore
                simp [e2, e3, e10, e11, e12, hw, hl', o13]
                exact ⟨b.code.length - (j + 1), by omega, j + 1, by omega, rfl, by rw [hmore]; rfl, rfl, hF1.set _, next⟩
              · rw [if_neg o13] at hmore
                simp [e2, e3, e5, e10, e11, e12, hw, hl', o12, o13]
                exact ⟨b.code.length - (j + 1), by omega, j + 1, by omega, rfl, by rw [hmore]; rfl, rfl, hF1.set _, next⟩
        | false =>
          have next : ∀ i (hi : i < b.code.length), i < j + 1 → insB regs b.code[i] = true ∧ (endsB b.code[i].op = true → b.code.length ≤ i + 1) := fun i hi2 hij => by
            by_cases hij2 : i = j
            · subst hij2
              exact ⟨by rw [hx]; exact hi, fun h => by rw [hx, he] at h; cases h⟩
            · exact hok i hi2 (by omega)
          have hno : ¬ (x.op = 11 ∨ x.op = 12 ∨ x.op = 13) := by simpa [endsB] using he
          rw [if_neg (by omega), if_neg (by omega)] at hmore
          simp [e2, e3, e5, e10, e11, e12, hw, show ¬ x.op = 12 by omega, show ¬ x.op = 13 by omega]
          exact ⟨b.code.length - (j + 1), by omega, j + 1, by omega, rfl, by rw [hmore]; rfl, rfl, hF1.set _, next⟩
end Go.Proofs.YtcoepjbipbihfaaGreatDoor
