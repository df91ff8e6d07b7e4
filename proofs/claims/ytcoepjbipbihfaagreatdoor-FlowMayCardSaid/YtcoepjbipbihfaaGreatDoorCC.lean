/- code: the reference's Goal and MayIns. -/
import Derived.Test.YtcoepjbipbihfaaGreatDoorCB
namespace Go.Proofs.YtcoepjbipbihfaaGreatDoor
set_option linter.unusedSimpArgs false
set_option linter.unusedVariables false
open Go Go.Fw
section
variable {p : PrgV} {f : FunV} {x : Ins}
theorem p_refGoal (x : Ins) : PCall Tryz.prog 114 [.agg x.cells] (.tup [i64 (if (ofR x.op).n = 7 then x.n else 0), bl (decide ((ofR x.op).n = 7))]) := by
  refine PCall.of fun N => acall mixed c_bobbinref07_Goal (by simp) ?_
  by_cases h : x.op = 11
  · simp [a_bobbinref07_Goal, h, ofR_n]; exact .free rfl
  · by_cases h2 : x.op = 12
    · simp [a_bobbinref07_Goal, h2, ofR_n]; exact .free rfl
    · have : ¬ (ofR x.op).n = 7 := by
        rw [ofR_n]; repeat' split
        all_goals omega
      simp [a_bobbinref07_Goal, h, h2, this]; exact .free rfl


theorem p_refMayIns {n : Int} (hx : x.Ok) (hl : x.args.length ≤ 999999999990) : PCall Tryz.prog 39 [.agg p.cells, i64 n, .agg x.cells] (bl (within n p.funs.length && (match p.funs[n.toNat]? with | some f => mayB p f x | none => false))) := by
  refine PCall.of fun N => acall mixed c_bobbinref07_MayIns (by simp) ?_
  simp [a_bobbinref07_MayIns]
  refine (p_refwithin _ _).acall ?_
  by_cases hw : within n p.funs.length = true
  · have hb : 0 ≤ n ∧ n < p.funs.length := by simpa [within] using hw
    obtain ⟨g, hg⟩ : ∃ g, p.funs[n.toNat]? = some g := ⟨p.funs[n.toNat]'(by omega), by simp [show n.toNat < p.funs.length by omega]⟩
    have hge := (List.getElem?_eq_some_iff.1 hg).2
    have hq := aindex_sl (k := p.fk) (sz := 5) hb.1 (funCells_at hg)
    simp [hw, hq]
    refine (p_refmayIns hx hl).acall ?_
    simp [hg]
    exact .free rfl
  · simp [hw]
    exact .free rfl


end
end Go.Proofs.YtcoepjbipbihfaaGreatDoor
