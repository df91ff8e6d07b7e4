/- Framework, part 4: more operations over abstract values, each held against the model's. -/
import Derived.Test.YtmgmgeijfkcglaaF3
namespace Go.Fw
set_option linter.unusedSimpArgs false
set_option linter.unusedVariables false
open Go
set_option linter.unusedSectionVars false
variable [Globals]

/-- What an operation of the model comes to, told by abstract values. -/
def OpRes (P : Program) (o : Oper) (a : Act) (e : Env) (H : AHeap) (v : AV) (H' : AHeap) (N' : Nat) : Prop :=
  ∃ nx rv e', (execOp a.eval o).run P e.w = .ok nx e'.w ∧ (nx = .value rv ∨ nx = .skip ∧ rv = undef) ∧ Rep e' v rv ∧ HRep e' H' ∧ e'.N = N' ∧ Tr e H e' H'

section
variable {P : Program} {o : Oper} {a : Act} {e : Env} {H : AHeap} {v : AV}

theorem OpRes.pure {rv : Value} (hH : HRep e H) (h : (execOp a.eval o).run P e.w = .ok (.value rv) e.w) (r : Rep e v rv) : OpRes P o a e H v H e.N :=
  ⟨_, rv, e, h, .inl rfl, r, hH, rfl, .refl e H⟩

/-- The cells of a value. -/
def AV.cells : AV → Option (List AV)
  | .agg cs => some cs
  | .lit v => if v.oneCell' = true then some [.lit v] else none
  | .tup _ => none
  | .junk => none
  | a => some [a]

theorem cells_one {v : Value} (h : v.oneCell' = true) : v.cells = #[v] := by cases v <;> simp [Value.oneCell'] at h <;> rfl

theorem Rep.cells {a : AV} {v : Value} {cs : List AV} (h : a.cells = some cs) (r : Rep e a v) :
    v.cells.size = cs.length ∧ ∀ (i : Nat) (c : AV) (u : Value), cs[i]? = some c → v.cells[i]? = some u → u.oneCell' = true ∧ Rep e c u := by
  have one : ∀ {a : AV} {v : Value}, v.oneCell' = true → Rep e a v → cs = [a] → v.cells.size = cs.length ∧ ∀ (i : Nat) (c : AV) (u : Value), cs[i]? = some c → v.cells[i]? = some u → u.oneCell' = true ∧ Rep e c u := by
    intro a v h1 r hcs
    subst hcs
    rw [cells_one h1]
    refine ⟨rfl, fun i c u hi hu => ?_⟩
    cases i with
    | zero => simp at hi hu; subst hi; subst hu; exact ⟨h1, r⟩
    | succ i => simp at hi
  cases r with
  | lit v =>
    simp only [AV.cells] at h
    split at h
    · rename_i h1; cases h; exact one h1 (.lit v) rfl
    · cases h
  | agg hl h1 h2 =>
    rename_i cs' vs
    simp only [AV.cells, Option.some.injEq] at h
    subst h
    refine ⟨by simp [Value.cells, hl], fun i c u hi hu => ?_⟩
    simp only [Value.cells, List.getElem?_toArray] at hu
    exact ⟨h1 u (List.mem_of_getElem? hu), h2 i c u hi hu⟩
  | tup => simp [AV.cells] at h
  | junk => simp [AV.cells] at h
  | slNil sz => simp only [AV.cells, Option.some.injEq] at h; exact one rfl (.slNil sz) h.symm
  | slE hk => simp only [AV.cells, Option.some.injEq] at h; exact one rfl (.slE hk) h.symm
  | sl u hk hI hcap hex hsz hc h1 hr => simp only [AV.cells, Option.some.injEq] at h; exact one rfl (.sl u hk hI hcap hex hsz hc h1 hr) h.symm
  | ip u hI hc h1 hr => simp only [AV.cells, Option.some.injEq] at h; exact one rfl (.ip u hI hc h1 hr) h.symm
  | mp h1 => simp only [AV.cells, Option.some.injEq] at h; exact one rfl (.mp h1) h.symm
  | ms h1 h2 h3 h4 => simp only [AV.cells, Option.some.injEq] at h; exact one rfl (.ms h1 h2 h3 h4) h.symm
  | mm h1 => simp only [AV.cells, Option.some.injEq] at h; exact one rfl (.mm h1) h.symm
  | fn hf hc h1 h2 => simp only [AV.cells, Option.some.injEq] at h; exact one rfl (.fn hf hc h1 h2) h.symm
  | ifc h1 => simp only [AV.cells, Option.some.injEq] at h; exact one rfl (.ifc h1) h.symm
  | yl h1 => simp only [AV.cells, Option.some.injEq] at h; exact one rfl (.yl h1) h.symm

/-- A part of a struct's cells. -/
def apart (ag : Bool) (sz off : Nat) (cs : List AV) : Option AV :=
  if ag = true then (if off + sz ≤ cs.length then some (.agg ((cs.drop off).take sz)) else none) else cs[off]?

def isAggB (P : Program) (t : TypeId) : Bool :=
  match P.underlying t with
  | some (.struct _) => true
  | some (.array _ _) => true
  | _ => false

theorem run_isAgg {t : TypeId} {d : TypeDesc} (h : P.underlying t = some d) (w : World) : (isAgg t).run P w = .ok (isAggB P t) w := by
  unfold isAgg isAggB
  cases d <;> simp [run_underlying h, h]

theorem rep_agg_get {cs : List AV} {vs : List Value} (hl : vs.length = cs.length) {i : Nat} {c : AV} (h : cs[i]? = some c) : ∃ u, vs[i]? = some u := by
  have : i < cs.length := (List.getElem?_eq_some_iff.1 h).1
  exact ⟨vs[i]'(by omega), by simp [show i < vs.length by omega]⟩

theorem apart_run {t : TypeId} {d : TypeDesc} (hd : P.underlying t = some d) {sz off : Nat} (hs : (P.info? t).map (·.size) = some sz) {cs : List AV} {r : AV} {v : Value}
    (h : apart (isAggB P t) sz off cs = some r) (hr : Rep e (.agg cs) v) : ∃ vs, v = .agg vs ∧ ∃ u, (part t vs off).run P e.w = .ok u e.w ∧ Rep e r u := by
  cases hr with
  | agg hl h1 h2 =>
    rename_i vs
    refine ⟨_, rfl, ?_⟩
    obtain ⟨ti, hti, hsz⟩ : ∃ ti, P.info? t = some ti ∧ ti.size = sz := by
      cases hi : P.info? t with
      | none => simp [hi] at hs
      | some ti => exact ⟨ti, rfl, by simpa [hi] using hs⟩
    unfold apart at h
    split at h
    · rename_i hag
      split at h
      · rename_i hle
        cases h
        refine ⟨.agg (vs.toArray.extract off (off + sz)), ?_, ?_⟩
        · simp [part, run_isAgg hd, hag, sizeOf, typeInfo, hti, hsz]
        · have he : vs.toArray.extract off (off + sz) = ((vs.drop off).take sz).toArray := by
            rw [List.extract_toArray, List.extract_eq_take_drop]; congr 2; omega
          rw [he]
          refine .agg (by simp; omega) (fun u hu => h1 u (List.mem_of_mem_drop (List.mem_of_mem_take hu))) (fun i c u hc hu => ?_)
          rw [List.getElem?_take] at hc hu
          split at hc
          · rename_i hlt
            rw [if_pos hlt] at hu
            rw [List.getElem?_drop] at hc hu
            exact h2 _ c u hc hu
          · cases hc
      · cases h
    · rename_i hag
      obtain ⟨u, hu⟩ := rep_agg_get hl h
      refine ⟨u, ?_, h2 off r u h hu⟩
      have hag' : isAggB P t = false := by simpa using hag
      simp [part, run_isAgg hd, hag', hu]

theorem addr_add (b o n : Nat) : (⟨b, o, none⟩ : Addr).add n = ⟨b, o + n, none⟩ := by unfold Addr.add; split <;> simp_all

/-- Cells that are known. -/
def MemAt (e : Env) (b o : Nat) (cs : List AV) : Prop := ∀ (j : Nat) (c : AV), cs[j]? = some c → ∃ u, e.w.cell? ⟨b, o + j, none⟩ = some u ∧ u.oneCell' = true ∧ Rep e c u

theorem size_info {t : TypeId} {sz : Nat} (hs : (P.info? t).map (·.size) = some sz) : ∃ ti, P.info? t = some ti ∧ ti.size = sz := by
  cases hi : P.info? t with
  | none => simp [hi] at hs
  | some ti => exact ⟨ti, rfl, by simpa [hi] using hs⟩

theorem load_run {t : TypeId} {d : TypeDesc} (hd : P.underlying t = some d) {sz off : Nat} (hs : (P.info? t).map (·.size) = some sz) {b o : Nat} {cs : List AV} {r : AV}
    (h : apart (isAggB P t) sz off cs = some r) (hm : MemAt e b o cs) : ∃ u, (loadVar t ⟨b, o + off, none⟩).run P e.w = .ok u e.w ∧ Rep e r u := by
  obtain ⟨ti, hti, hsz⟩ := size_info hs
  unfold apart at h
  split at h
  · rename_i hag
    split at h
    · rename_i hle
      cases h
      let f : Nat → Value := fun j => (e.w.cell? ⟨b, o + off + j, none⟩).getD undef
      have hf : ∀ j, j < sz → ∃ c, cs[off + j]? = some c ∧ e.w.cell? ⟨b, o + off + j, none⟩ = some (f j) ∧ (f j).oneCell' = true ∧ Rep e c (f j) := fun j hj => by
        have hc : cs[off + j]? = some (cs[off + j]'(by omega)) := by simp [show off + j < cs.length by omega]
        obtain ⟨u, h1, h2, h3⟩ := hm (off + j) _ hc
        have h4 : e.w.cell? ⟨b, o + off + j, none⟩ = some u := by rw [← h1]; congr 2; omega
        refine ⟨_, hc, ?_⟩
        simp only [f, h4, Option.getD_some]
        exact ⟨trivial, h2, h3⟩
      have hrun := run_loadCells_list (P := P) e.w ⟨b, o + off, none⟩ ((List.range sz).map f) (fun j u hu => by
        rw [List.getElem?_map] at hu
        cases hr : (List.range sz)[j]? with
        | none => simp [hr] at hu
        | some k =>
          have hj : j < sz := by have := (List.getElem?_eq_some_iff.1 hr).1; simpa using this
          have hk : k = j := by have := (List.getElem?_eq_some_iff.1 hr).2; simpa using this.symm
          subst hk
          simp [hr] at hu
          rw [addr_add, ← hu]
          exact (hf k hj).choose_spec.2.1)
      simp only [List.length_map, List.length_range] at hrun
      refine ⟨.agg ((List.range sz).map f).toArray, by simp [loadVar, run_isAgg hd, hag, sizeOf, typeInfo, hti, hsz, hrun], ?_⟩
      refine .agg (by simp; omega) (fun u hu => ?_) (fun i c u hc hu => ?_)
      · obtain ⟨j, hj, rfl⟩ := List.mem_map.1 hu
        exact (hf j (by simpa using hj)).choose_spec.2.2.1
      · rw [List.getElem?_take] at hc
        split at hc
        · rename_i hlt
          rw [List.getElem?_drop] at hc
          obtain ⟨c', h1, h2, h3, h4⟩ := hf i hlt
          rw [hc] at h1
          cases h1
          simp [hlt] at hu
          rw [← hu]
          exact h4
        · cases hc
    · cases h
  · rename_i hag
    obtain ⟨u, h1, h2, h3⟩ := hm off r h
    have hag' : isAggB P t = false := by simpa using hag
    exact ⟨u, by simp [loadVar, run_isAgg hd, hag', h1], h3⟩

theorem memAt_ip {cs : List AV} {off : Nat} {v : Value} (h : Rep e (.ip cs off) v) : ∃ b o, v = .pointer (some ⟨b, o + off, none⟩) ∧ MemAt e b o cs ∧ e.I b := by
  cases h with
  | ip u hI hc h1 hr => exact ⟨_, _, rfl, fun j c hj => ⟨u j, hc j c hj, h1 j c hj, hr j c hj⟩, hI⟩

theorem memAt_obj {H : AHeap} (hH : HRep e H) {id : Nat} {cs : List AV} (h : H id = some (.blk cs)) : MemAt e (e.ρ id).1 (e.ρ id).2 cs := by
  obtain ⟨_, _, c, t, h1, h2, h3⟩ := hH.at_ id _ h
  intro j a hj
  obtain ⟨u, h4, h5, h6⟩ := h3 j a hj
  exact ⟨u, by simp [World.cell?, h1, h4], h5, h6⟩

/-- What a load finds. -/
def aload (H : AHeap) (ag : Bool) (sz : Nat) : AV → Option AV
  | .ip cs off => apart ag sz off cs
  | .mp id off => match H id with
    | some (.blk cs) => apart ag sz off cs
    | _ => none
  | _ => none

theorem aload_run {H : AHeap} (hH : HRep e H) {t : TypeId} {d : TypeDesc} (hd : P.underlying t = some d) {sz : Nat} (hs : (P.info? t).map (·.size) = some sz) {x r : AV} {v : Value}
    (h : aload H (isAggB P t) sz x = some r) (hr : Rep e x v) : ∃ u, (Instr.loadAt t v).run P e.w = .ok u e.w ∧ Rep e r u := by
  unfold aload at h
  split at h
  · obtain ⟨b, o, rfl, hm, _⟩ := memAt_ip hr
    obtain ⟨u, h1, h2⟩ := load_run hd hs h hm
    exact ⟨u, by simp [Instr.loadAt, Instr.sureAddr, h1], h2⟩
  · split at h
    · rename_i id off _ cs hid
      cases hr
      obtain ⟨u, h1, h2⟩ := load_run hd hs h (memAt_obj hH hid)
      exact ⟨u, by simp [Instr.loadAt, Instr.sureAddr, h1], h2⟩
    · cases h
  · cases h

end
end Go.Fw
