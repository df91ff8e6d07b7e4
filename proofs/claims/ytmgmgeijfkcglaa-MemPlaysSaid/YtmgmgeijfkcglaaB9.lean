/- Both memories side by side: a step. -/
import Derived.Test.YtmgmgeijfkcglaaB8
namespace Go.Proofs.Ytmgmgeijfkcglaa
set_option linter.unusedSimpArgs false
set_option linter.unusedVariables false
open Go Go.Fw
attribute [local simp] Value.oneCell' anil aidxs noHeap_or set_or
/-- Both memories, apart from each other. -/
def Pair (G : AHeap) (m x : Nat) (rows : List (List Int)) (locks : Int) (held : List (Int × Int)) (fl : List Bool) (by_ : List Int) : Prop :=
  ∃ (M X : AHeap) (hid cid : Nat) (rids : List Nat) (fid bid cid2 : Nat) (rids2 : List Nat) (fv bv : AV), M.le G ∧ X.le G ∧ Dis M X ∧ IsMem M m hid cid rids rows locks held ∧ IsRef X x fid bid cid2 rids2 rows fv bv fl by_
section
variable {m x : Nat} {rows : List (List Int)} {locks : Int} {held : List (Int × Int)} {fl : List Bool} {by_ : List Int} {G : AHeap}
/-- One call on the memory, one on the reference. -/
theorem pair_calls {f1 f2 : FuncId} {a1 a2 : List AV} {rows' : List (List Int)} {held' : List (Int × Int)} {fl' : List Bool} {by' : List Int} {r1 r2 : AV} {N : Nat} (hP : Pair G m x rows locks held fl by_)
    (c1 : ∀ {M : AHeap} {hid cid : Nat} {rids : List Nat}, IsMem M m hid cid rids rows locks held → ∀ N, ACall Try.prog f1 a1 M N (fun r H' _ => r = r1 ∧ IsMem H' m hid cid rids rows' locks held'))
    (c2 : ∀ {X : AHeap} {fid bid cid : Nat} {rids : List Nat} {fv bv : AV}, IsRef X x fid bid cid rids rows fv bv fl by_ → ∀ N, ACall Try.prog f2 a2 X N (fun r H' _ => r = r2 ∧ IsRef H' x fid bid cid rids rows' fv bv fl' by')) :
    ACall Try.prog f1 a1 G N (fun r H' N' => r = r1 ∧ ACall Try.prog f2 a2 H' N' (fun r H'' _ => r = r2 ∧ Pair H'' m x rows' locks held' fl' by')) := by
  obtain ⟨M, X, hid, cid, rids, fid, bid, cid2, rids2, fv, bv, hMG, hXG, hMX, hM, hX⟩ := hP
  refine ((c1 hM N).on hMG).mono ?_
  rintro r H1 N1 ⟨M', ⟨rfl, hM'⟩, l1, l2, l3, l4⟩
  obtain ⟨k1, k2⟩ := l2 X hXG hMX
  refine ⟨rfl, ((c2 hX N1).on k1).mono ?_⟩
  rintro r H2 N2 ⟨X', ⟨rfl, hX'⟩, p1, p2, p3, p4⟩
  obtain ⟨q1, q2⟩ := p2 M' l1 k2.symm
  exact ⟨rfl, M', X', hid, cid, rids, fid, bid, cid2, rids2, fv, bv, q1, p1, q2.symm, hM', hX'⟩
def stRows (st : StepV) (rows : List (List Int)) : List (List Int) := if st.kind = 0 then setRows rows st.at_ st.here st.v else rows
def stHeld (st : StepV) (locks : Int) (held : List (Int × Int)) : List (Int × Int) := if st.kind = 1 then takeHeld locks held st.at_ st.here else if st.kind = 2 then giveHeld locks held st.at_ st.here else held
def stFl (st : StepV) (fl : List Bool) (by_ : List Int) : List Bool := if st.kind = 1 then (if rTake fl st.at_ = 0 then fl.set st.at_.toNat true else fl) else if st.kind = 2 then (if rGive fl by_ st.at_ st.here = 0 then fl.set st.at_.toNat false else fl) else fl
def stBy (st : StepV) (fl : List Bool) (by_ : List Int) : List Int := if st.kind = 1 then (if rTake fl st.at_ = 0 then by_.set st.at_.toNat st.here else by_) else if st.kind = 2 then (if rGive fl by_ st.at_ st.here = 0 then by_.set st.at_.toNat 0 else by_) else by_
theorem Rel.step {st : StepV} (h : Rel locks held fl by_) (h1 : In64 st.at_) (h2 : In64 st.here) : Rel locks (stHeld st locks held) (stFl st fl by_) (stBy st fl by_) := by
  unfold stHeld stFl stBy
  by_cases k1 : st.kind = 1
  · rw [if_pos k1, if_pos k1, if_pos k1]; exact h.taken h1 h2
  · rw [if_neg k1, if_neg k1, if_neg k1]
    by_cases k2 : st.kind = 2
    · rw [if_pos k2, if_pos k2, if_pos k2]; exact h.given
    · rw [if_neg k2, if_neg k2, if_neg k2]; exact h
theorem p_do {st : StepV} (hR : Rel locks held fl by_) (hP : Pair G m x rows locks held fl by_) (N : Nat) : ACall Try.prog 31 [.agg st.cells, .mp m 0, .mp x 0] G N (fun r H' N' =>
    r = bl true ∧ Pair H' m x (stRows st rows) locks (stHeld st locks held) (stFl st fl by_) (stBy st fl by_)) := by
  have hce : st.cells = [u8 st.kind, i64 st.at_, i64 st.here, i64 st.v] := rfl
  refine acall mixed c_bobbinlaw08_Step_do (by simp) ?_
  rw [hce]
  by_cases k0 : st.kind = 0
  · have e1 : stRows st rows = setRows rows st.at_ st.here st.v := by unfold stRows; rw [if_pos k0]
    have e2 : stHeld st locks held = held := by unfold stHeld; rw [if_neg (by omega), if_neg (by omega)]
    have e3 : stFl st fl by_ = fl := by unfold stFl; rw [if_neg (by omega), if_neg (by omega)]
    have e4 : stBy st fl by_ = by_ := by unfold stBy; rw [if_neg (by omega), if_neg (by omega)]
    rw [e1, e2, e3, e4]
    simp [a_bobbinlaw08_Step_do, k0]
    refine (pair_calls hP (fun hM N => (p21 hM st.at_ st.here st.v N).mono (by rintro r H' N' ⟨a, b, _, _⟩; exact ⟨a, b⟩)) (fun hX N => p_rSet hX st.at_ st.here st.v N)).mono ?_
    rintro r H1 N1 ⟨rfl, h2⟩
    simp
    refine h2.mono ?_
    rintro r H2 N2 ⟨rfl, h3⟩
    simp
    exact h3
  · by_cases k1 : st.kind = 1
    · have e1 : stRows st rows = rows := by unfold stRows; rw [if_neg k0]
      have e2 : stHeld st locks held = takeHeld locks held st.at_ st.here := by unfold stHeld; rw [if_pos k1]
      have e3 : stFl st fl by_ = (if rTake fl st.at_ = 0 then fl.set st.at_.toNat true else fl) := by unfold stFl; rw [if_pos k1]
      have e4 : stBy st fl by_ = (if rTake fl st.at_ = 0 then by_.set st.at_.toNat st.here else by_) := by unfold stBy; rw [if_pos k1]
      have ht := hR.take st.at_
      rw [e1, e2, e3, e4]
      simp [a_bobbinlaw08_Step_do, k1]
      refine (pair_calls hP (fun hM N => (p22 hM st.at_ st.here N).mono (by rintro r H' N' ⟨a, b, _⟩; exact ⟨a, b⟩)) (fun hX N => p_rTake hX st.at_ st.here N)).mono ?_
      rintro r H1 N1 ⟨rfl, h2⟩
      simp
      refine h2.mono ?_
      rintro r H2 N2 ⟨rfl, h3⟩
      rw [ht]
      simp
      exact h3
    · by_cases k2 : st.kind = 2
      · have e1 : stRows st rows = rows := by unfold stRows; rw [if_neg k0]
        have e2 : stHeld st locks held = giveHeld locks held st.at_ st.here := by unfold stHeld; rw [if_neg k1, if_pos k2]
        have e3 : stFl st fl by_ = (if rGive fl by_ st.at_ st.here = 0 then fl.set st.at_.toNat false else fl) := by unfold stFl; rw [if_neg k1, if_pos k2]
        have e4 : stBy st fl by_ = (if rGive fl by_ st.at_ st.here = 0 then by_.set st.at_.toNat 0 else by_) := by unfold stBy; rw [if_neg k1, if_pos k2]
        have ht := hR.give st.at_ st.here
        rw [e1, e2, e3, e4]
        simp [a_bobbinlaw08_Step_do, k2]
        refine (pair_calls hP (fun hM N => (p23 hM st.at_ st.here N).mono (by rintro r H' N' ⟨a, b, _⟩; exact ⟨a, b⟩)) (fun hX N => p_rGive hX st.at_ st.here N)).mono ?_
        rintro r H1 N1 ⟨rfl, h2⟩
        simp
        refine h2.mono ?_
        rintro r H2 N2 ⟨rfl, h3⟩
        rw [ht]
        simp
        exact h3
      · have e1 : stRows st rows = rows := by unfold stRows; rw [if_neg k0]
        have e2 : stHeld st locks held = held := by unfold stHeld; rw [if_neg k1, if_neg k2]
        have e3 : stFl st fl by_ = fl := by unfold stFl; rw [if_neg k1, if_neg k2]
        have e4 : stBy st fl by_ = by_ := by unfold stBy; rw [if_neg k1, if_neg k2]
        rw [e1, e2, e3, e4]
        simp [a_bobbinlaw08_Step_do, k0, k1, k2]
        refine (pair_calls (rows' := rows) (held' := held) (fl' := fl) (by' := by_) hP (fun hM N => (p24 hM st.at_ st.here N).mono (by rintro r H' N' ⟨a, rfl, rfl⟩; exact ⟨a, hM⟩)) (fun hX N => (p_rGet hX st.at_ st.here N).mono (by rintro r H' N' ⟨a, rfl, rfl⟩; exact ⟨a, hX⟩))).mono ?_
        rintro r H1 N1 ⟨rfl, h2⟩
        simp
        refine h2.mono ?_
        rintro r H2 N2 ⟨rfl, h3⟩
        simp
        exact h3
end
end Go.Proofs.Ytmgmgeijfkcglaa
