/- code: what instructions read and write: sixteen examples. -/
import Derived.Test.YtanpcmkhhpaeiaaDoorK7
import Derived.Test.YtanpcmkhhpaeiaaDoorNO
import Derived.Test.YtanpcmkhhpaeiaaDoorPM
import Derived.Test.YtanpcmkhhpaeiaaDoorPM
import Derived.Test.YtanpcmkhhpaeiaaDoorPM
import Derived.Test.YtanpcmkhhpaeiaaDoorPM
namespace Go.Proofs.YtanpcmkhhpaeiaaDoor
set_option linter.unusedSimpArgs false
set_option linter.unusedVariables false
open Go Go.Fw

/-- An example: an instruction, what it reads, what it writes, where it goes to. -/
structure FldE where
  x : Ins
  rd : List Int
  w : Int
  g : Int
def FldE.rdV (e : FldE) : AV := match e.rd with
  | [] => .sl .nil 0 []
  | l => .sl .exact 1 (intCells l)
def FldE.row (e : FldE) : List AV := [u8 e.x.op, i64 e.x.r, i64 e.x.a, i64 e.x.b, i64 e.x.n, .sl e.x.k e.x.z (intCells e.x.args), e.rdV, i64 e.w, i64 e.g]
def i5 (op r a b n : Int) : Ins := ⟨op, r, a, b, n, .nil, 0, []⟩
def fldL : List FldE := [⟨i5 1 5 6 0 0, [], 5, -1⟩, ⟨i5 2 5 6 0 0, [6], 5, -1⟩, ⟨i5 3 5 6 0 0, [6], 5, -1⟩, ⟨i5 4 5 6 6 0, [6, 6], 5, -1⟩, ⟨i5 5 5 6 0 0, [6], 5, -1⟩, ⟨i5 5 5 (-1) 0 0, [], 5, -1⟩,
  ⟨i5 6 5 6 7 0, [6, 7], -1, -1⟩, ⟨i5 7 0 0 0 5, [], -1, -1⟩, ⟨i5 8 0 0 0 5, [], -1, -1⟩, ⟨i5 9 0 6 0 0, [6], -1, -1⟩, ⟨⟨10, 5, 9, 0, 0, .exact, 1, [7, 6]⟩, [7, 6], 5, -1⟩,
  ⟨i5 11 0 4 0 3, [], -1, 3⟩, ⟨i5 12 0 6 0 3, [6], -1, 3⟩, ⟨i5 13 0 6 0 3, [6], -1, -1⟩, ⟨i5 99 5 6 0 3, [], -1, -1⟩, ⟨i5 0 0 6 0 0, [], -1, -1⟩]
def FldE.okB (e : FldE) : Bool := decide (readsL e.x = e.rd) && ((ofR e.x.op).r == decide (0 ≤ e.w)) && decide (0 ≤ e.w → e.x.r = e.w) && (decide ((ofR e.x.op).n = 7) == decide (0 ≤ e.g)) && decide (0 ≤ e.g → e.x.n = e.g)
  && decide (0 ≤ e.x.op ∧ e.x.op < 256 ∧ e.x.args.length ≤ 10 ∧ e.rd.length ≤ 10) && (decide (e.x.z = 1) || e.x.args.isEmpty)
theorem fldL_ok : fldL.all FldE.okB = true := by kernel_rfl
structure FldE.Ok (e : FldE) : Prop where
  rd : readsL e.x = e.rd
  r : (ofR e.x.op).r = decide (0 ≤ e.w)
  w : 0 ≤ e.w → e.x.r = e.w
  n : decide ((ofR e.x.op).n = 7) = decide (0 ≤ e.g)
  g : 0 ≤ e.g → e.x.n = e.g
  ok : e.x.Ok
  al : e.x.args.length ≤ 10
  rl : e.rd.length ≤ 10
theorem fld_at {e : FldE} (h : e ∈ fldL) : e.Ok := by
  have := List.all_eq_true.1 fldL_ok e h
  unfold FldE.okB at this
  simp only [Bool.and_eq_true, decide_eq_true_eq, beq_iff_eq, Bool.or_eq_true, List.isEmpty_iff] at this
  obtain ⟨⟨⟨⟨⟨⟨h1, h2⟩, h3⟩, h4⟩, h5⟩, h6, h7, h8, h9⟩, h10⟩ := this
  exact ⟨h1, h2, h3, h4, h5, ⟨h6, h7, by unfold maxLen; omega, h10⟩, h8, h9⟩
theorem FldE.rdS (e : FldE) (H : AHeap) : RdSl H 1 (intCells e.rd) e.rdV := by
  unfold FldE.rdV
  split
  · rename_i h; rw [h]; exact .inl ⟨.nil, 0, rfl, .inr rfl⟩
  · exact .inl ⟨.exact, 1, rfl, .inl rfl⟩
theorem FldE.rdC (e : FldE) : e.rdV.cells = some [e.rdV] := by
  unfold FldE.rdV
  split <;> rfl

section
variable {A : Nat → AV} {H : AHeap} {N : Nat} {fs : List Fr} {Q : Post}
/-- What the tests of an example find. -/
structure FldS (A : Nat → AV) (H : AHeap) (o : Nat) (e : FldE) (wr gn : Int) : Prop where
  a2 : A 2 = .mp o 0
  a3 : A 3 = i64 wr
  a4 : A 4 = bl (decide (0 ≤ e.w))
  a5 : A 5 = i64 gn
  a6 : A 6 = bl (decide (0 ≤ e.g))
  b : H o = some (.blk [u8 e.x.op, i64 e.x.r, i64 e.x.a, i64 e.x.b, i64 e.x.n, .sl e.x.k e.x.z (intCells e.x.args), e.rdV, i64 e.w, i64 e.g])
  w1 : 0 ≤ e.w → wr = e.w
  w0 : ¬ 0 ≤ e.w → wr = 0
  g1 : 0 ≤ e.g → gn = e.g
  g0 : ¬ 0 ≤ e.g → gn = 0
abbrev kept : List Nat := [2, 3, 4, 5, 6, 54, 55, 56]
theorem FldS.to {A A' : Nat → AV} {H : AHeap} {o : Nat} {e : FldE} {wr gn : Int} (h : FldS A H o e wr gn) (hk : ∀ t ∈ kept, A' t = A t) : FldS A' H o e wr gn :=
  ⟨(hk 2 (by decide)).trans h.a2, (hk 3 (by decide)).trans h.a3, (hk 4 (by decide)).trans h.a4, (hk 5 (by decide)).trans h.a5, (hk 6 (by decide)).trans h.a6, h.b, h.w1, h.w0, h.g1, h.g0⟩
theorem fld_1 {c : List AOper} (hc : c = o_fld1) {o : Nat} {e : FldE} {wr gn : Int} (h : FldS A H o e wr gn) (h0 : A 77 = bl true) (hk : ∀ A', A' 85 = bl false → (∀ t ∈ kept, A' t = A t) → onward Tryd.prog fs Q .normal ⟨A', H, N⟩) : runOps Tryd.prog c fs Q ⟨A, H, N⟩ := by
  subst hc
  obtain ⟨a2, a3, a4, a5, a6, b, w1, w0, g1, g0⟩ := h
  have hcl := e.rdC
  by_cases hw : 0 ≤ e.w
  · have hx := w1 hw
    simp [o_fld1, h0, a2, a3, a4, a5, a6, b, hw, hx, hcl]
    exact hk _ (by simp) (by simp)
  · have hx := w0 hw
    simp [o_fld1, h0, a2, a3, a4, a5, a6, b, hw, hx, hcl]
    exact hk _ (by simp) (by simp)
theorem fld_2 {c : List AOper} (hc : c = o_fld2) {o : Nat} {e : FldE} {wr gn : Int} (h : FldS A H o e wr gn) (h0 : A 85 = bl false) (hk : ∀ A', A' 94 = bl false → (∀ t ∈ kept, A' t = A t) → onward Tryd.prog fs Q .normal ⟨A', H, N⟩) : runOps Tryd.prog c fs Q ⟨A, H, N⟩ := by
  subst hc
  obtain ⟨a2, a3, a4, a5, a6, b, w1, w0, g1, g0⟩ := h
  have hcl := e.rdC
  by_cases hw : 0 ≤ e.w
  · have hx := w1 hw
    simp [o_fld2, h0, a2, a3, a4, a5, a6, b, hw, hx, hcl]
    exact hk _ (by simp) (by simp)
  · have hx := w0 hw
    simp [o_fld2, h0, a2, a3, a4, a5, a6, b, hw, hx, hcl]
    exact hk _ (by simp) (by simp)
theorem fld_3 {c : List AOper} (hc : c = o_fld3) {o : Nat} {e : FldE} {wr gn : Int} (h : FldS A H o e wr gn) (h0 : A 94 = bl false) (hk : ∀ A', A' 102 = bl false → (∀ t ∈ kept, A' t = A t) → onward Tryd.prog fs Q .normal ⟨A', H, N⟩) : runOps Tryd.prog c fs Q ⟨A, H, N⟩ := by
  subst hc
  obtain ⟨a2, a3, a4, a5, a6, b, w1, w0, g1, g0⟩ := h
  have hcl := e.rdC
  by_cases hw : 0 ≤ e.w
  · have hx := w1 hw
    simp [o_fld3, h0, a2, a3, a4, a5, a6, b, hw, hx, hcl]
    exact hk _ (by simp) (by simp)
  · have hx := w0 hw
    simp [o_fld3, h0, a2, a3, a4, a5, a6, b, hw, hx, hcl]
    exact hk _ (by simp) (by simp)
theorem fld_4 {c : List AOper} (hc : c = o_fld4) {o : Nat} {e : FldE} {wr gn : Int} (h : FldS A H o e wr gn) (h0 : A 102 = bl false) (hk : ∀ A', A' 109 = bl false → (∀ t ∈ kept, A' t = A t) → onward Tryd.prog fs Q .normal ⟨A', H, N⟩) : runOps Tryd.prog c fs Q ⟨A, H, N⟩ := by
  subst hc
  obtain ⟨a2, a3, a4, a5, a6, b, w1, w0, g1, g0⟩ := h
  have hcl := e.rdC
  by_cases hw : 0 ≤ e.g
  · have hx := g1 hw
    simp [o_fld4, h0, a2, a3, a4, a5, a6, b, hw, hx, hcl]
    exact hk _ (by simp) (by simp)
  · have hx := g0 hw
    simp [o_fld4, h0, a2, a3, a4, a5, a6, b, hw, hx, hcl]
    exact hk _ (by simp) (by simp)
theorem fld_5 {c : List AOper} (hc : c = o_fld5) {o : Nat} {e : FldE} {wr gn : Int} (h : FldS A H o e wr gn) (h0 : A 109 = bl false) (hk : ∀ A', A' 118 = bl false → (∀ t ∈ kept, A' t = A t) → onward Tryd.prog fs Q .normal ⟨A', H, N⟩) : runOps Tryd.prog c fs Q ⟨A, H, N⟩ := by
  subst hc
  obtain ⟨a2, a3, a4, a5, a6, b, w1, w0, g1, g0⟩ := h
  have hcl := e.rdC
  by_cases hw : 0 ≤ e.g
  · have hx := g1 hw
    simp [o_fld5, h0, a2, a3, a4, a5, a6, b, hw, hx, hcl]
    exact hk _ (by simp) (by simp)
  · have hx := g0 hw
    simp [o_fld5, h0, a2, a3, a4, a5, a6, b, hw, hx, hcl]
    exact hk _ (by simp) (by simp)
theorem fld_6 {c : List AOper} (hc : c = o_fld6) {o : Nat} {e : FldE} {wr gn : Int} (h : FldS A H o e wr gn) (h0 : A 118 = bl false) (hk : ∀ A', A' 126 = bl false → (∀ t ∈ kept, A' t = A t) → onward Tryd.prog fs Q .normal ⟨A', H, N⟩) : runOps Tryd.prog c fs Q ⟨A, H, N⟩ := by
  subst hc
  obtain ⟨a2, a3, a4, a5, a6, b, w1, w0, g1, g0⟩ := h
  have hcl := e.rdC
  by_cases hw : 0 ≤ e.g
  · have hx := g1 hw
    simp [o_fld6, h0, a2, a3, a4, a5, a6, b, hw, hx, hcl]
    exact hk _ (by simp) (by simp)
  · have hx := g0 hw
    simp [o_fld6, h0, a2, a3, a4, a5, a6, b, hw, hx, hcl]
    exact hk _ (by simp) (by simp)
end

section
variable {A : Nat → AV} {H : AHeap} {N : Nat} {fs : List Fr} {Q : Post}
theorem fld_t {c : ACode} (hc : a_fld_t = c) {o : Nat} {e : FldE} {wr gn : Int} (ho : e.Ok) (h : FldS A H o e wr gn) (hF : Fresh H N) (hoN : o < N) (hk : ∀ A' H' N', N ≤ N' → Fresh H' N' → (∀ t ∈ kept, A' t = A t) → onward Tryd.prog fs Q .normal ⟨A', H', N'⟩) : run Tryd.prog c fs Q ⟨A, H, N⟩ := by
  obtain ⟨d1, e1⟩ : ∃ d, o_fld1 = d := ⟨_, rfl⟩
  obtain ⟨d2, e2⟩ : ∃ d, o_fld2 = d := ⟨_, rfl⟩
  obtain ⟨d3, e3⟩ : ∃ d, o_fld3 = d := ⟨_, rfl⟩
  obtain ⟨d4, e4⟩ : ∃ d, o_fld4 = d := ⟨_, rfl⟩
  obtain ⟨d5, e5⟩ : ∃ d, o_fld5 = d := ⟨_, rfl⟩
  obtain ⟨d6, e6⟩ : ∃ d, o_fld6 = d := ⟨_, rfl⟩
  unfold a_fld_t at hc
  rw [e1, e2, e3, e4, e5, e6] at hc
  subst hc
  have hcl := e.rdC
  have h2 := h.a2
  have hb := h.b
  simp [run_append, o_fld0, h2, hb, hcl]
  refine (p_Reads (x := e.x) ho.ok (by have := ho.al; omega) _ _).monoF ?_
  rintro v2 H2 N2 ⟨hN2, hk2, hB2⟩ hF2 _
  have b2 := (hk2 o hoN).trans hb
  simp [hcl]
  refine ⟨fun id o h => (hk2 id (hF.lt h)).trans h, ?_⟩
  refine (p_ints (la := readsL e.x) (lb := e.rd) hB2.rd (e.rdS H2) (by rw [ho.rd]; have := ho.rl; unfold maxLen; omega) N2).mono ?_
  rintro r3 H3 N3 ⟨rfl, rfl, rfl⟩
  have hrd := ho.rd
  simp [hrd]
  have hS0 : FldS A H3 o e wr gn := ⟨h.a2, h.a3, h.a4, h.a5, h.a6, b2, h.w1, h.w0, h.g1, h.g0⟩
  have hS1 : FldS (upA (upA (upA (upA (upA (upA A 72 (.mp o 0)) 75 (.mp o 6)) 73 (.agg [u8 e.x.op, i64 e.x.r, i64 e.x.a, i64 e.x.b, i64 e.x.n, .sl e.x.k e.x.z (intCells e.x.args)])) 76 e.rdV) 74 v2) 77 (bl true)) H3 o e wr gn := hS0.to (by simp [kept])
  rw [run_append]
  refine fld_1 e1.symm hS1 (by simp) fun B1 r1 k1 => ?_
  have hS2 := hS1.to k1
  simp
  rw [run_append]
  refine fld_2 e2.symm hS2 r1 fun B2 r2 k2 => ?_
  have hS3 := hS2.to k2
  simp
  rw [run_append]
  refine fld_3 e3.symm hS3 r2 fun B3 r3 k3 => ?_
  have hS4 := hS3.to k3
  simp
  rw [run_append]
  refine fld_4 e4.symm hS4 r3 fun B4 r4 k4 => ?_
  have hS5 := hS4.to k4
  simp
  rw [run_append]
  refine fld_5 e5.symm hS5 r4 fun B5 r5 k5 => ?_
  have hS6 := hS5.to k5
  simp
  refine fld_6 e6.symm hS6 r5 fun B6 r6 k6 => ?_
  have hS7 := hS6.to k6
  simp
  simp [r6]
  refine hk _ _ _ hN2 hF2 fun t ht => ((k6 t ht).trans ((k5 t ht).trans ((k4 t ht).trans ((k3 t ht).trans ((k2 t ht).trans (k1 t ht)))))).trans ?_
  revert t
  simp [kept]
end

section
variable {A : Nat → AV} {H : AHeap} {N : Nat} {fs : List Fr} {Q : Post}
theorem fld_e1 : ((opsOf a_fld_e).bind fun os => (pureRun os []).bind fun l => looksT l [54, 55, 56]) = some [.sl .exact 9 (fldL.map FldE.row), i64 16, i64 0] := by kernel_rfl
theorem fld_e2 : ((opsOf a_fld_e).bind fun os => (pureRun os []).map fun l => ([] : List Nat).all fun t => (lookT l t).isNone) = some true := by kernel_rfl
theorem fld_e {c : ACode} (hc : a_fld_e = c) (hk : ∀ A', A' 54 = .sl .exact 9 (fldL.map FldE.row) → A' 55 = i64 16 → A' 56 = i64 0 → onward Tryd.prog fs Q .normal ⟨A', H, N⟩) : run Tryd.prog c fs Q ⟨A, H, N⟩ := by
  refine run_lits (c := c) (ds := [54, 55, 56]) (vs := [.sl .exact 9 (fldL.map FldE.row), i64 16, i64 0]) (ts := []) (by rw [← hc]; exact fld_e1) (by rw [← hc]; exact fld_e2) fun A' h _ => ?_
  simp only [List.map_cons, List.map_nil, List.cons.injEq, and_true] at h
  exact hk A' h.1 h.2.1 h.2.2

theorem fld_x {c : ACode} (hc : a_fld_x = c) (hF : Fresh H N) (hk : ∀ A' H' N', N ≤ N' → Fresh H' N' → onward Tryd.prog fs Q .normal ⟨A', H', N'⟩) : run Tryd.prog c fs Q ⟨A, H, N⟩ := by
  obtain ⟨d, ee⟩ : ∃ c, a_fld_e = c := ⟨_, rfl⟩
  unfold a_fld_x at hc
  rw [ee] at hc
  subst hc
  simp
  refine fld_e ee fun A0 h54 h55 h56 => ?_
  have hln : fldL.length = 16 := rfl
  simp
  refine run_loop (fun m s => ∃ j : Nat, j ≤ 16 ∧ m = 16 - j ∧ s.A 54 = .sl .exact 9 (fldL.map FldE.row) ∧ s.A 55 = i64 16 ∧ s.A 56 = i64 j ∧ N ≤ s.N ∧ Fresh s.H s.N) 16 ?_ ?_
  · exact ⟨0, by omega, by omega, h54, h55, h56, Nat.le_refl _, hF⟩
  · rintro m A1 H1 N1 ⟨j, hj, rfl, e54, e55, e56, hN1, hF1⟩
    simp only at e54 e55 e56 hN1 hF1
    by_cases hjn : j = 16
    · subst hjn
      simp [a_bobbinlaw07_fieldsb2, e54, e55, e56]
      exact hk _ _ _ hN1 hF1
    · have hlt : j < 16 := by omega
      obtain ⟨e, he⟩ : ∃ e, fldL[j]? = some e := ⟨fldL[j]'(by omega), List.getElem?_eq_getElem _⟩
      have ho := fld_at (List.mem_of_getElem? he)
      have hq : aindex 9 (.sl .exact 9 (fldL.map FldE.row)) (i64 (j : Nat)) = some (.ip e.row 0) := aindex_sl (by omega) (by simp [he])
      generalize fldL.map FldE.row = L at e54 hq
      have hrc := e.rdC
      have hld : ∀ X, aload X true 9 (.ip e.row 0) = some (.agg e.row) := fun X => by simp [aload, apart, FldE.row]
      have hrow : e.row = [u8 e.x.op, i64 e.x.r, i64 e.x.a, i64 e.x.b, i64 e.x.n, .sl e.x.k e.x.z (intCells e.x.args), e.rdV, i64 e.w, i64 e.g] := rfl
      simp only [hrow] at hld
      simp only [hrow] at hq
      have hl6 : (j : Int) < 16 := by omega
      obtain ⟨_, et⟩ : ∃ c, a_fld_t = c := ⟨_, rfl⟩
      unfold a_bobbinlaw07_fieldsb2
      rw [et]
      simp [e54, e55, e56, hl6, hq, hld, hrc, splice]
      refine (p_Writes e.x ho.ok).acall ?_
      simp
      refine (p_Goal e.x ho.ok).acall ?_
      simp
      have hrr : (if (ofR e.x.op).r = true then e.x.r else 0) = (if 0 ≤ e.w then e.w else 0) := by
        have := ho.r
        by_cases hw : 0 ≤ e.w
        · simp [hw] at this; simp [this, hw, ho.w hw]
        · simp [hw] at this; simp [this, hw]
      have hnn : (if (ofR e.x.op).n = 7 then e.x.n else 0) = (if 0 ≤ e.g then e.g else 0) := by
        have := ho.n
        by_cases hw : 0 ≤ e.g
        · simp [hw] at this; simp [this, hw, ho.g hw]
        · simp [hw] at this; simp [this, hw]
      refine fld_t et (o := N1) (e := e) (wr := if 0 ≤ e.w then e.w else 0) (gn := if 0 ≤ e.g then e.g else 0) ho ⟨by simp, by simp [hrr], by simp [ho.r], by simp [hnn], by simp [ho.n], by simp [AHeap.set], fun h => by simp [h], fun h => by simp [h], fun h => by simp [h], fun h => by simp [h]⟩ (hF1.set _) (by omega) fun A2 H2 N2 hN2 hF2 hk2 => ?_
      have g54 : A2 54 = .sl .exact 9 L := (hk2 54 (by decide)).trans (by simp [e54])
      have g55 : A2 55 = i64 16 := (hk2 55 (by decide)).trans (by simp [e55])
      have g56 : A2 56 = i64 j := (hk2 56 (by decide)).trans (by simp [e56])
      simp [g54, g55, g56]
      refine ⟨16 - (j + 1), by omega, j + 1, by omega, rfl, ?_, by omega, hF2⟩
      rw [wrap_i64 (by omega) (by omega)]; rfl
end
end Go.Proofs.YtanpcmkhhpaeiaaDoor

/- code: which of the examples' programs may be. -/
namespace Go.Proofs.YtanpcmkhhpaeiaaDoor
set_option linter.unusedSimpArgs false
set_option linter.unusedVariables false
open Go Go.Fw
section
variable {A : Nat → AV} {H : AHeap} {N : Nat} {fs : List Fr} {Q : Post}
theorem mk_long : amake 6 64 zero6 (i64 16384) (i64 16384) = some (16384, 16384) := by kernel_rfl
theorem prg_m {c : ACode} (hc : a_prg_m = c) (hk : ∀ A', A' 1 = A 1 → A' 2 = .ms N 0 16384 6 → onward Tryd.prog fs Q .normal ⟨A', H.set N (.blk (List.replicate 16384 zero6).flatten), N + 1⟩) : run Tryd.prog c fs Q ⟨A, H, N⟩ := by
  subst hc
  show thenK Tryd.prog ((amake 6 64 zero6 (i64 16384) (i64 16384)).map fun x => (.ms N 0 x.1 6, H.set N (.blk ((List.replicate x.1 zero6).flatten)), N + 1)) (some 11) [⟨some 2, .val (.tmp 11), none⟩] fs Q ⟨A, H, N⟩
  rw [mk_long]
  generalize hn : 16384 = n at hk ⊢
  simp
  exact hk _ (by simp) (by simp)
end
set_option maxRecDepth 20000 in
theorem p_programs (H : AHeap) (N : Nat) : ACall Tryd.prog 21 [] H N (fun r _ _ => r = bl true) := by
  refine acallF mixed c_bobbinlaw07_programs (by simp) fun hF => ?_
  unfold a_bobbinlaw07_programs
  obtain ⟨_, em⟩ : ∃ c, a_prg_m = c := ⟨_, rfl⟩
  obtain ⟨_, el⟩ : ∃ c, a_prg_l = c := ⟨_, rfl⟩
  obtain ⟨_, ey⟩ : ∃ c, a_prg_y = c := ⟨_, rfl⟩
  obtain ⟨_, ea⟩ : ∃ c, a_prg_a = c := ⟨_, rfl⟩
  obtain ⟨_, en⟩ : ∃ c, a_prg_n = c := ⟨_, rfl⟩
  obtain ⟨_, eb⟩ : ∃ c, a_prg_b = c := ⟨_, rfl⟩
  rw [em, el, ey, ea, en, eb]
  simp
  refine prg_m em fun A1 k1 h2 => ?_
  have h1 : A1 1 = .sl .exact 6 [bare13.cells] := by rw [k1]; simp [bare13, Ins.cells, intCells]
  have ho0 : (H.set N (.blk (List.replicate 16384 zero6).flatten)) N = some (.blk (List.replicate 16384 zero6).flatten) := by simp only [AHeap.set, if_true]
  have hF0 : Fresh (H.set N (.blk (List.replicate 16384 zero6).flatten)) (N + 1) := hF.set _
  generalize H.set N (.blk (List.replicate 16384 zero6).flatten) = H0 at ho0 hF0 ⊢
  simp
  rw [← el]
  refine prg_l (o := N) (n := 16384) (by omega) h2 ho0 hF0 (by omega) fun A2 k2 => ?_
  have ho : (H0.set N (.blk (List.replicate 16384 bare13.cells).flatten)) N = some (.blk (List.replicate 16384 bare13.cells).flatten) := by simp only [AHeap.set, if_true]
  have hF2 : Fresh (H0.set N (.blk (List.replicate 16384 bare13.cells).flatten)) (N + 1) := fun id hid => by
    simp only [AHeap.set]
    rw [if_neg (by omega)]
    exact hF0 id hid
  generalize H0.set N (.blk (List.replicate 16384 bare13.cells).flatten) = H2 at ho hF2 ⊢
  have g1 : A2 1 = .sl .exact 6 [bare13.cells] := (k2 1 (by simp)).trans h1
  have g2 : A2 2 = .ms N 0 16384 6 := (k2 2 (by simp)).trans h2
  simp
  rw [← ey]
  refine prg_y (o := N) (by simp [g1]) (by simp [g2]) (by simp) (by omega) hF2 fun A3 H3 N3 hN3 hF3 hk3 h5 k3 => ?_
  have ho3 := (hk3 N (by omega)).trans ho
  have m1 : A3 1 = .sl .exact 6 [bare13.cells] := (k3 1 (by simp)).trans (by simp [g1])
  have m2 : A3 2 = .ms N 0 16384 6 := (k3 2 (by simp)).trans (by simp [g2])
  have m4 : A3 4 = .fn (.func 43) [] [] := (k3 4 (by simp)).trans (by simp)
  simp
  rw [← ea]
  refine prg_a (yes_progs ho3) (show 7 ≤ 100 by omega) h5 fun A4 k4 => ?_
  simp
  refine prg_n en (o := N) ((k4 1 (by simp)).trans m1) ((k4 2 (by simp)).trans m2) ((k4 4 (by simp)).trans m4) ho3 (by omega) fun A5 H5 N5 id hid h7 => ?_
  simp
  rw [← eb]
  refine prg_b (no_progs hid) (show 19 ≤ 100 by omega) h7 fun A6 => ?_
  simp
end Go.Proofs.YtanpcmkhhpaeiaaDoor

/- code: six changes of an instruction, each is told. -/
namespace Go.Proofs.YtanpcmkhhpaeiaaDoor
set_option linter.unusedSimpArgs false
set_option linter.unusedVariables false
open Go Go.Fw
def exA : Ins := ⟨10, 1, 2, 3, 4, .exact, 1, [5]⟩
def exB (j : Nat) : Ins := match j with
  | 0 => ⟨1, 1, 2, 3, 4, .any, 1, [5]⟩
  | 1 => ⟨10, 0, 2, 3, 4, .any, 1, [5]⟩
  | 2 => ⟨10, 1, 0, 3, 4, .any, 1, [5]⟩
  | 3 => ⟨10, 1, 2, 0, 4, .any, 1, [5]⟩
  | 4 => ⟨10, 1, 2, 3, 0, .any, 1, [5]⟩
  | _ => ⟨10, 1, 2, 3, 4, .any, 1, [6]⟩
theorem ex_same : (List.range 6).all (fun j => !sameIns exA (exB j)) = true := by kernel_rfl
theorem ex_ok (j : Nat) : (exB j).Ok := by
  unfold exB
  split <;> exact ⟨by decide, by decide, by show 1 ≤ maxLen; unfold maxLen; omega, .inl rfl⟩
theorem exA_ok : exA.Ok := ⟨by decide, by decide, by show 1 ≤ maxLen; unfold maxLen; omega, .inl rfl⟩
theorem p_diff {j : Nat} (hj : j < 6) : PCall Tryd.prog 18 [.agg exA.cells, .agg (exB j).cells] (bl false) := by
  have h := List.all_eq_true.1 ex_same j (List.mem_range.2 hj)
  simp only [Bool.not_eq_true'] at h
  have := p_SameIns exA (exB j) exA_ok (ex_ok j)
  rwa [h] at this
theorem sees_one {H : AHeap} {o : Nat} {v : Int} (ho : H o = some (.blk [i64 v])) : SeesAs H (.ms o 0 1 1) (.sl .any 1 (intCells [v])) :=
  View.sees (view_flat (sz := 1) (es := intCells [v]) (fun x hx => by simp [intCells] at hx; subst hx; rfl) (by simp [intCells, freeLL, freeL, AV.free]) rfl ho)
theorem sees6 {H : AHeap} {a b c d e f f' : AV} (h : SeesAs H f f') : SeesAs H (.agg [a, b, c, d, e, f]) (.agg [a, b, c, d, e, f']) := by
  refine .agg rfl fun i x y hx hy => ?_
  match i, hx, hy with
  | 0, hx, hy => cases hx; cases hy; exact .refl _
  | 1, hx, hy => cases hx; cases hy; exact .refl _
  | 2, hx, hy => cases hx; cases hy; exact .refl _
  | 3, hx, hy => cases hx; cases hy; exact .refl _
  | 4, hx, hy => cases hx; cases hy; exact .refl _
  | 5, hx, hy => cases hx; cases hy; exact h
  | i + 6, hx, hy => cases hx
theorem two_sees {H : AHeap} {a b b' : AV} (h : SeesAs H b b') : ∀ (i : Nat) (x y : AV), [a, b][i]? = some x → [a, b'][i]? = some y → SeesAs H x y := fun i x y hx hy => by
  match i, hx, hy with
  | 0, hx, hy => cases hx; cases hy; exact .refl _
  | 1, hx, hy => cases hx; cases hy; exact h
  | i + 2, hx, hy => cases hx

section
variable {A : Nat → AV} {H : AHeap} {N o : Nat} {fs : List Fr} {Q : Post}
theorem fld_y {c : ACode} (hc : a_fld_y = c) (h7 : A 7 = .mp o 0) (ho : H o = some (.blk exA.cells)) (hoN : o < N) (hF : Fresh H N)
    (hk : ∀ A' H' N', N ≤ N' → Fresh H' N' → A' 7 = .mp o 0 → H' o = some (.blk exA.cells) → onward Tryd.prog fs Q .normal ⟨A', H', N'⟩) : run Tryd.prog c fs Q ⟨A, H, N⟩ := by
  subst hc
  simp [a_fld_y]
  refine run_loop (fun m s => ∃ j : Nat, j ≤ 6 ∧ m = 6 - j ∧ s.A 7 = .mp o 0 ∧ s.A 8 = i64 j ∧ N ≤ s.N ∧ Fresh s.H s.N ∧ s.H o = some (.blk exA.cells)) 6 ?_ ?_
  · exact ⟨0, by omega, by omega, by simp [h7], by simp, Nat.le_refl _, hF, ho⟩
  · rintro m A1 H1 N1 ⟨j, hj, rfl, e7, e8, hN1, hF1, ho1⟩
    simp only at e7 e8 hN1 hF1 ho1
    by_cases hjn : j = 6
    · subst hjn
      simp [a_bobbinlaw07_fieldsb1, e7, e8]
      exact hk _ _ _ hN1 hF1 (by simp [e7]) ho1
    · have hl6 : (j : Int) < 6 := by omega
      have ho2 := ho1
      simp only [exA, Ins.cells, intCells, List.map] at ho2
      have n1 : ¬ o = N1 := by omega
      have n2 : ¬ o = N1 + 1 := by omega
      have hcase : j = 0 ∨ j = 1 ∨ j = 2 ∨ j = 3 ∨ j = 4 ∨ j = 5 := by omega
      rcases hcase with rfl | rfl | rfl | rfl | rfl | rfl
      · simp [a_bobbinlaw07_fieldsb1, e7, e8, ho2, splice, n1, n2]
        refine (p_diff (j := 0) (by omega)).sees rfl (two_sees (sees6 (sees_one (by simp [AHeap.set])))) ?_
        simp [e7, e8, n1, n2]
        refine ⟨6 - 1, by omega, 1, by omega, rfl, rfl, by omega, fun id hid => ?_, ho1⟩
        simp only [AHeap.set]
        repeat rw [if_neg (by omega)]
        exact hF1 id (by omega)
      · simp [a_bobbinlaw07_fieldsb1, e7, e8, ho2, splice, n1, n2]
        refine (p_diff (j := 1) (by omega)).sees rfl (two_sees (sees6 (sees_one (by simp [AHeap.set])))) ?_
        simp [e7, e8, n1, n2]
        refine ⟨6 - 2, by omega, 2, by omega, rfl, rfl, by omega, fun id hid => ?_, ho1⟩
        simp only [AHeap.set]
        repeat rw [if_neg (by omega)]
        exact hF1 id (by omega)
      · simp [a_bobbinlaw07_fieldsb1, e7, e8, ho2, splice, n1, n2]
        refine (p_diff (j := 2) (by omega)).sees rfl (two_sees (sees6 (sees_one (by simp [AHeap.set])))) ?_
        simp [e7, e8, n1, n2]
        refine ⟨6 - 3, by omega, 3, by omega, rfl, rfl, by omega, fun id hid => ?_, ho1⟩
        simp only [AHeap.set]
        repeat rw [if_neg (by omega)]
        exact hF1 id (by omega)
      · simp [a_bobbinlaw07_fieldsb1, e7, e8, ho2, splice, n1, n2]
        refine (p_diff (j := 3) (by omega)).sees rfl (two_sees (sees6 (sees_one (by simp [AHeap.set])))) ?_
        simp [e7, e8, n1, n2]
        refine ⟨6 - 4, by omega, 4, by omega, rfl, rfl, by omega, fun id hid => ?_, ho1⟩
        simp only [AHeap.set]
        repeat rw [if_neg (by omega)]
        exact hF1 id (by omega)
      · simp [a_bobbinlaw07_fieldsb1, e7, e8, ho2, splice, n1, n2]
        refine (p_diff (j := 4) (by omega)).sees rfl (two_sees (sees6 (sees_one (by simp [AHeap.set])))) ?_
        simp [e7, e8, n1, n2]
        refine ⟨6 - 5, by omega, 5, by omega, rfl, rfl, by omega, fun id hid => ?_, ho1⟩
        simp only [AHeap.set]
        repeat rw [if_neg (by omega)]
        exact hF1 id (by omega)
      · have hq : aindex 1 (.ms (N1 + 1) 0 1 1) (.lit (.int .i64 0)) = some (.mp (N1 + 1) 0) := rfl
        simp [a_bobbinlaw07_fieldsb1, e7, e8, ho2, splice, n1, n2, hq]
        refine (p_diff (j := 5) (by omega)).sees rfl (two_sees (sees6 (sees_one (by simp [AHeap.set])))) ?_
        simp [e7, e8, n1, n2]
        refine ⟨6, by omega, by omega, rfl, by omega, fun id hid => ?_, ho1⟩
        simp only [AHeap.set]
        repeat rw [if_neg (by omega)]
        exact hF1 id (by omega)
end
end Go.Proofs.YtanpcmkhhpaeiaaDoor

/- code: what instructions read and write, and which are the same: all. -/
namespace Go.Proofs.YtanpcmkhhpaeiaaDoor
set_option linter.unusedSimpArgs false
set_option linter.unusedVariables false
open Go Go.Fw
def ret1 : Ins := ⟨13, 0, 1, 0, 0, .nil, 0, []⟩
def noP : PrgV := ⟨.nil, .nil, .nil, [], [], []⟩
theorem f_same0 : sameIns exA exA = true := by kernel_rfl
theorem f_same1 : samePrg (oneP 1 .exact [bare13]) (oneP 1 .exact [bare13]) = true := by kernel_rfl
theorem f_same2 : samePrg (oneP 1 .exact [bare13]) (oneP 1 .exact [ret1]) = false := by kernel_rfl
theorem f_same3 : samePrg (oneP 1 .exact [bare13]) noP = false := by kernel_rfl
theorem f_thr : thrL (oneP 1 .exact [bare13]).funs = [0] := by kernel_rfl
theorem one_cmp {x : Ins} (hx : x.Ok) : (oneP 1 .exact [x]).Cmp where
  ml := by show 1 ≤ maxLen; unfold maxLen; omega
  ll := by show 1 ≤ maxLen; unfold maxLen; omega
  fl := by show 2 ≤ maxLen; unfold maxLen; omega
  cl := fun f hf => by
    simp only [oneP, List.mem_cons, List.not_mem_nil, or_false] at hf
    rcases hf with rfl | rfl <;> (show 1 ≤ maxLen; unfold maxLen; omega)
  ins := fun f hf y hy => by
    simp only [oneP, List.mem_cons, List.not_mem_nil, or_false] at hf
    rcases hf with rfl | rfl
    · simp only [List.mem_cons, List.not_mem_nil, or_false] at hy
      subst hy
      exact hx
    · simp only [List.mem_cons, List.not_mem_nil, or_false] at hy
      subst hy
      exact ⟨by decide, by decide, by decide, .inr rfl⟩
theorem no_cmp : noP.Cmp where
  ml := by show 0 ≤ maxLen; omega
  ll := by show 0 ≤ maxLen; omega
  fl := by show 0 ≤ maxLen; omega
  cl := fun f hf => by cases hf
  ins := fun f hf => by cases hf
theorem b13_ok : bare13.Ok := ⟨by decide, by decide, by decide, .inr rfl⟩
theorem r1_ok : ret1.Ok := ⟨by decide, by decide, by decide, .inr rfl⟩
section
variable {A : Nat → AV} {H : AHeap} {N o o1 o2 : Nat} {fs : List Fr} {Q : Post}
theorem fld_z {c : ACode} (hc : a_fld_z = c) (h7 : A 7 = .mp o 0) (h10 : A 10 = .mp o1 0) (h11 : A 11 = .mp o2 0) (ho : H o = some (.blk exA.cells)) (ho1 : H o1 = some (.blk (oneP 1 .exact [bare13]).cells)) (ho2 : H o2 = some (.blk (oneP 1 .exact [ret1]).cells))
    (hk : ∀ A' H' N', A' 0 = bl true → onward Tryd.prog fs Q .normal ⟨A', H', N'⟩) : run Tryd.prog c fs Q ⟨A, H, N⟩ := by
  subst hc
  generalize hE : exA.cells = E at ho
  have hEl : E.length = 6 := by rw [← hE]; rfl
  generalize hp1 : (oneP 1 .exact [bare13]).cells = P1 at ho1
  have hPl : P1.length = 3 := by rw [← hp1]; rfl
  generalize hp2 : (oneP 1 .exact [ret1]).cells = P2 at ho2
  have hQl : P2.length = 3 := by rw [← hp2]; rfl
  have t6 : E.take 6 = E := List.take_of_length_le (by omega)
  have t3 : P1.take 3 = P1 := List.take_of_length_le (by omega)
  have t4 : P2.take 3 = P2 := List.take_of_length_le (by omega)
  simp [a_fld_z, h7, h10, h11, ho, ho1, ho2, hEl, hPl, hQl, t6, t3, t4]
  subst hE
  refine (p_SameIns exA exA exA_ok exA_ok).acall ?_
  rw [f_same0]
  simp [a_fld_z, h7, h10, h11, ho, ho1, ho2, hEl, hPl, hQl, t6, t3, t4]
  subst hp1
  refine (p_Same (one_cmp b13_ok) (one_cmp b13_ok)).acall ?_
  rw [f_same1]
  generalize hp1 : (oneP 1 .exact [bare13]).cells = P1 at *
  simp [a_fld_z, h7, h10, h11, ho, ho1, ho2, hEl, hPl, hQl, t6, t3, t4]
  subst hp1
  subst hp2
  refine (p_Same (one_cmp b13_ok) (one_cmp r1_ok)).acall ?_
  rw [f_same2]
  generalize hp1 : (oneP 1 .exact [bare13]).cells = P1 at *
  generalize hp2 : (oneP 1 .exact [ret1]).cells = P2 at *
  simp [a_fld_z, h7, h10, h11, ho, ho1, ho2, hEl, hPl, hQl, t6, t3, t4]
  subst hp1
  refine (p_Same (one_cmp b13_ok) no_cmp).sees rfl (two_sees (sees3 (nilS 3) (nilS 1) (nilS 5))) ?_
  rw [f_same3]
  generalize hp1 : (oneP 1 .exact [bare13]).cells = P1 at *
  simp [a_fld_z, h7, h10, h11, ho, ho1, ho2, hEl, hPl, hQl, t6, t3, t4]
  subst hp1
  refine (p_Threads (p := oneP 1 .exact [bare13]) (by decide) H N).mono ?_
  rintro v1 H1 N1 ⟨hN1, hk1, hB1⟩
  rw [f_thr] at hB1
  have hcl := hB1.rd.cells
  simp [hcl]
  refine (p_ints (la := [0]) (lb := [0]) hB1.rd (.inl ⟨.exact, 1, rfl, .inl rfl⟩) (by decide) N1).mono ?_
  rintro r3 H3 N3 ⟨rfl, rfl, rfl⟩
  simp
  exact hk _ _ _ (by simp)
end

theorem p_fields (H : AHeap) (N : Nat) : ACall Tryd.prog 22 [] H N (fun r _ _ => r = bl true) := by
  obtain ⟨_, ex⟩ : ∃ c, a_fld_x = c := ⟨_, rfl⟩
  obtain ⟨_, ey⟩ : ∃ c, a_fld_y = c := ⟨_, rfl⟩
  obtain ⟨_, ez⟩ : ∃ c, a_fld_z = c := ⟨_, rfl⟩
  refine acallF mixed c_bobbinlaw07_fields (by simp) fun hF => ?_
  unfold a_bobbinlaw07_fields
  rw [ex, ey, ez]
  simp
  refine fld_x ex hF fun A1 H1 N1 hN1 hF1 => ?_
  simp [splice]
  refine fld_y ey (o := N1) (by simp) (by simp [AHeap.set, exA, Ins.cells, intCells]) (by omega) ?_ fun A2 H2 N2 hN2 hF2 h7 ho => ?_
  · exact fun id hid => by
      simp only [AHeap.set]
      repeat rw [if_neg (by omega)]
      exact hF1 id (by omega)
  simp
  refine (p_one (regs := 1) (k := .exact) (l := [bare13])).acall ?_
  generalize hp1 : (oneP 1 .exact [bare13]).cells = P1
  have hPl : P1.length = 3 := by rw [← hp1]; rfl
  simp [hPl]
  refine (p_one (regs := 1) (k := .exact) (l := [ret1])).acall ?_
  generalize hp2 : (oneP 1 .exact [ret1]).cells = P2
  have hQl : P2.length = 3 := by rw [← hp2]; rfl
  simp [hQl]
  refine fld_z ez (o := N1) (o1 := N2) (o2 := N2 + 1) (by simp [h7]) (by simp) (by simp) ?_ ?_ ?_ fun A3 H3 N3 h0 => ?_
  · have := hF2.lt ho
    simp only [AHeap.set]
    repeat rw [if_neg (by omega)]
    exact ho
  · simp [AHeap.set, hp1]
  · simp [AHeap.set, hp2]
  · simp [h0]
end Go.Proofs.YtanpcmkhhpaeiaaDoor

/- code: which instructions may be: forty-four examples. -/
namespace Go.Proofs.YtanpcmkhhpaeiaaDoor
set_option linter.unusedSimpArgs false
set_option linter.unusedVariables false
open Go Go.Fw
structure NamE where
  x : Ins
  b : Bool
def NamE.row (e : NamE) : List AV := [u8 e.x.op, i64 e.x.r, i64 e.x.a, i64 e.x.b, i64 e.x.n, .sl e.x.k e.x.z (intCells e.x.args), bl e.b]
def namL : List NamE := [⟨i5 0 0 0 0 0, false⟩, ⟨i5 14 0 0 0 0, false⟩, ⟨i5 1 2 0 0 (-9223372036854775808), true⟩, ⟨i5 1 3 0 0 0, false⟩, ⟨i5 1 (-1) 0 0 0, false⟩, ⟨i5 1 0 1 0 0, false⟩,
  ⟨i5 2 1 2 0 0, true⟩, ⟨i5 2 0 3 0 0, false⟩, ⟨i5 2 0 0 0 1, false⟩, ⟨i5 3 0 0 0 5, true⟩, ⟨i5 3 0 0 0 6, true⟩, ⟨i5 3 0 0 0 7, false⟩,
  ⟨i5 3 0 0 0 0, false⟩, ⟨i5 4 0 1 2 7, true⟩, ⟨i5 4 0 0 0 17, true⟩, ⟨i5 4 0 0 0 18, false⟩, ⟨i5 4 0 0 0 6, false⟩, ⟨i5 4 0 0 3 7, false⟩,
  ⟨i5 5 0 (-1) 0 0, true⟩, ⟨i5 5 0 (-2) 0 0, false⟩, ⟨i5 5 0 0 0 1, false⟩, ⟨i5 5 0 0 0 (-1), false⟩, ⟨i5 6 0 (-1) 2 0, true⟩, ⟨i5 6 0 0 (-1) 0, false⟩,
  ⟨i5 6 1 0 0 0, false⟩, ⟨i5 7 0 0 0 0, true⟩, ⟨i5 7 0 0 0 1, false⟩, ⟨i5 8 0 0 0 0, true⟩, ⟨i5 8 0 1 0 0, false⟩, ⟨i5 9 0 2 0 0, true⟩,
  ⟨i5 9 0 (-1) 0 0, false⟩, ⟨⟨10, 1, 0, 0, 1, .exact, 1, [0, 2]⟩, true⟩, ⟨⟨10, 0, 0, 0, 1, .exact, 1, [0]⟩, false⟩, ⟨⟨10, 0, 0, 0, 1, .exact, 1, [0, 1, 2]⟩, false⟩, ⟨⟨10, 0, 0, 0, 1, .exact, 1, [0, 3]⟩, false⟩, ⟨i5 10 0 0 0 0, false⟩,
  ⟨i5 10 0 0 0 2, false⟩, ⟨i5 11 0 0 0 0, true⟩, ⟨i5 11 0 0 0 1, false⟩, ⟨i5 11 0 0 0 (-1), false⟩, ⟨i5 12 0 2 0 0, true⟩, ⟨i5 12 0 2 0 1099511627776, false⟩,
  ⟨i5 13 0 2 0 0, true⟩, ⟨⟨13, 0, 0, 0, 0, .exact, 1, [1]⟩, false⟩]
def namP : PrgV := oneP 3 .exact [bare13]
def mayN (n : Int) (x : Ins) : Bool := within n namP.funs.length && (match namP.funs[n.toNat]? with | some f => mayB namP f x | none => false)
def NamE.okB (e : NamE) : Bool := (mayN 0 e.x == e.b) && !(mayN 2 e.x) && !(mayN (-1) e.x) && decide (0 ≤ e.x.op ∧ e.x.op < 256 ∧ e.x.args.length ≤ 10) && (decide (e.x.z = 1) || e.x.args.isEmpty)
theorem namL_ok : namL.all NamE.okB = true := by kernel_rfl
structure NamE.Ok (e : NamE) : Prop where
  m0 : mayN 0 e.x = e.b
  m2 : mayN 2 e.x = false
  m1 : mayN (-1) e.x = false
  ok : e.x.Ok
  al : e.x.args.length ≤ 10
theorem nam_at {e : NamE} (h : e ∈ namL) : e.Ok := by
  have := List.all_eq_true.1 namL_ok e h
  unfold NamE.okB at this
  simp only [Bool.and_eq_true, Bool.not_eq_true', decide_eq_true_eq, beq_iff_eq, Bool.or_eq_true, List.isEmpty_iff] at this
  obtain ⟨⟨⟨⟨h1, h2⟩, h3⟩, h6, h7, h8⟩, h10⟩ := this
  exact ⟨h1, h2, h3, ⟨h6, h7, by unfold maxLen; omega, h10⟩, h8⟩
section
variable {A : Nat → AV} {H : AHeap} {N o : Nat} {fs : List Fr} {Q : Post}
theorem nam_e1 : ((opsOf a_nam_e).bind fun os => (pureRun os []).bind fun l => looksT l [116, 117, 118]) = some [.sl .exact 7 (namL.map NamE.row), i64 44, i64 0] := by kernel_rfl
theorem nam_e2 : ((opsOf a_nam_e).bind fun os => (pureRun os []).map fun l => ([1] : List Nat).all fun t => (lookT l t).isNone) = some true := by kernel_rfl
theorem nam_e {c : ACode} (hc : a_nam_e = c) (hk : ∀ A', A' 1 = A 1 → A' 116 = .sl .exact 7 (namL.map NamE.row) → A' 117 = i64 44 → A' 118 = i64 0 → onward Tryd.prog fs Q .normal ⟨A', H, N⟩) : run Tryd.prog c fs Q ⟨A, H, N⟩ := by
  refine run_lits (c := c) (ds := [116, 117, 118]) (vs := [.sl .exact 7 (namL.map NamE.row), i64 44, i64 0]) (ts := [1]) (by rw [← hc]; exact nam_e1) (by rw [← hc]; exact nam_e2) fun A' h hk1 => ?_
  simp only [List.map_cons, List.map_nil, List.cons.injEq, and_true] at h
  exact hk A' (hk1 1 (by simp)) h.1 h.2.1 h.2.2

theorem nam_x {c : ACode} (hc : a_nam_x = c) (h1 : A 1 = .mp o 0) (ho : H o = some (.blk namP.cells)) (hoN : o < N) (hF : Fresh H N) (hk : ∀ A' H' N', onward Tryd.prog fs Q .normal ⟨A', H', N'⟩) : run Tryd.prog c fs Q ⟨A, H, N⟩ := by
  obtain ⟨d, ee⟩ : ∃ c, a_nam_e = c := ⟨_, rfl⟩
  unfold a_nam_x at hc
  rw [ee] at hc
  subst hc
  simp
  refine nam_e ee fun A0 k1 h116 h117 h118 => ?_
  have hln : namL.length = 44 := rfl
  generalize hpc : namP.cells = PC at ho
  have hPl : PC.length = 3 := by rw [← hpc]; rfl
  have t3 : PC.take 3 = PC := List.take_of_length_le (by omega)
  simp
  refine run_loop (fun m s => ∃ j : Nat, j ≤ 44 ∧ m = 44 - j ∧ s.A 1 = .mp o 0 ∧ s.A 116 = .sl .exact 7 (namL.map NamE.row) ∧ s.A 117 = i64 44 ∧ s.A 118 = i64 j ∧ N ≤ s.N ∧ Fresh s.H s.N ∧ s.H o = some (.blk PC)) 44 ?_ ?_
  · exact ⟨0, by omega, by omega, k1.trans h1, h116, h117, h118, Nat.le_refl _, hF, ho⟩
  · rintro m A1 H1 N1 ⟨j, hj, rfl, e1, e116, e117, e118, hN1, hF1, ho1⟩
    simp only at e1 e116 e117 e118 hN1 hF1 ho1
    by_cases hjn : j = 44
    · subst hjn
      simp [a_bobbinlaw07_CodeNamesb1, e116, e117, e118]
      exact hk _ _ _
    · have hl6 : (j : Int) < 44 := by omega
      obtain ⟨e, he⟩ : ∃ e, namL[j]? = some e := ⟨namL[j]'(by omega), List.getElem?_eq_getElem _⟩
      have hok := nam_at (List.mem_of_getElem? he)
      have hq : aindex 7 (.sl .exact 7 (namL.map NamE.row)) (i64 (j : Nat)) = some (.ip e.row 0) := aindex_sl (by omega) (by simp [he])
      generalize namL.map NamE.row = L at e116 hq
      have hrow : e.row = [u8 e.x.op, i64 e.x.r, i64 e.x.a, i64 e.x.b, i64 e.x.n, .sl e.x.k e.x.z (intCells e.x.args), bl e.b] := rfl
      have hld : ∀ X, aload X true 7 (.ip e.row 0) = some (.agg e.row) := fun X => by simp [aload, apart, NamE.row]
      simp only [hrow] at hld hq
      have n1 : ¬ o = N1 := by have := hF1.lt ho1; omega
      simp [a_bobbinlaw07_CodeNamesb1, e1, e116, e117, e118, hl6, hq, hld, splice, n1, ho1, hPl, t3]
      have hm : ∀ n, PCall Tryd.prog 20 [.agg PC, i64 n, .agg e.x.cells] (bl (mayN n e.x)) := fun n => by rw [← hpc]; exact p_MayIns hok.ok (by have := hok.al; omega)
      refine (hm 0).acall ?_
      rw [hok.m0]
      simp [afterKK_eq, e1, n1, ho1, hPl, t3]
      refine ⟨fun _ _ h => h, ?_⟩
      refine (hm 2).acall ?_
      rw [hok.m2]
      simp [afterKK_eq, e1, n1, ho1, hPl, t3]
      refine (hm (-1)).acall ?_
      rw [hok.m1]
      simp [afterKK_eq, e1, n1, ho1, hPl, t3, e116, e117, e118]
      refine ⟨44 - (j + 1), by omega, j + 1, by omega, rfl, ?_, by omega, hF1.set _⟩
      rw [wrap_i64 (by omega) (by omega)]; rfl
end

theorem p_CodeNames (H : AHeap) (N : Nat) : ACall Tryd.prog 6 [] H N (fun r _ _ => r = bl true) := by
  obtain ⟨_, ex⟩ : ∃ c, a_nam_x = c := ⟨_, rfl⟩
  refine acallF mixed c_bobbinlaw07_CodeNames (by simp) fun hF => ?_
  unfold a_bobbinlaw07_CodeNames
  rw [ex]
  simp
  refine p_works.acall ?_
  simp
  refine (p_one (regs := 3) (k := .exact) (l := [bare13])).acall ?_
  generalize hpc : (oneP 3 .exact [bare13]).cells = PC
  have hPl : PC.length = 3 := by rw [← hpc]; rfl
  have t3 : PC.take 3 = PC := List.take_of_length_le (by omega)
  simp [hPl, t3]
  refine nam_x ex (o := N) (by simp) (by simp [AHeap.set, namP, hpc]) (by omega) ?_ fun A1 H1 N1 => ?_
  · exact fun id hid => by
      simp only [AHeap.set]
      repeat rw [if_neg (by omega)]
      exact hF id (by omega)
  simp
  refine (p_programs H1 N1).mono ?_
  rintro r2 H2 N2 rfl
  simp
  refine (p_fields H2 N2).mono ?_
  rintro r3 H3 N3 rfl
  simp
end Go.Proofs.YtanpcmkhhpaeiaaDoor
