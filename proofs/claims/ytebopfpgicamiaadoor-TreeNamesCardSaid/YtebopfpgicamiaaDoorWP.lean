/- tree: within: what is in statements that may be, may be. -/
import Derived.Test.YtebopfpgicamiaaDoorWO
namespace Go.Proofs.YtebopfpgicamiaaDoor
set_option linter.unusedSimpArgs false
set_option linter.unusedVariables false
open Go Go.Fw
theorem ai0 (a b c : AV) : aindex 1 (.sl .exact 1 [[a], [b], [c]]) (i64 0) = some (.ip [a] 0) := rfl
theorem ai1 (a b c : AV) : aindex 1 (.sl .exact 1 [[a], [b], [c]]) (i64 1) = some (.ip [b] 0) := rfl
theorem ai2 (a b c : AV) : aindex 1 (.sl .exact 1 [[a], [b], [c]]) (i64 2) = some (.ip [c] 0) := rfl
/-- A thread of some statements. -/
def thD (k : SK) (l : List StmtV) : DeclV := ⟨5, ⟨#[116]⟩, 0, .nil, [], k, l, 0⟩
def thC (v : AV) : List AV := [.lit (.int .u8 5), .lit (.string ⟨#[116]⟩), .lit (.int .i64 0), .sl .nil 0 [], v, .lit (.int .i64 0)]
theorem thD_may {k : SK} {l : List StmtV} (hm : maySs l = true) (hd : depSs l ≤ 60) : mayP [thD k l] = true := by
  have hn : nameB ⟨#[116]⟩ = true := by kernel_rfl
  simp [mayP, thD, declB, hn, hm, depP, hd]
theorem p_th {k : SK} {l : List StmtV} (hok : ∀ s ∈ l, s.Ok) (hm : maySs l = true) (hd : depSs l ≤ 60) (hsz : stmtSz l ≤ 10000000) : PCall Tryd.prog 11 [.sl .exact 6 [thC (.sl k 8 (stmtCells l))]] (bl true) := by
  have hO : ∀ d ∈ [thD k l], d.Ok := fun d hd => by
    rw [List.mem_singleton.1 hd]
    exact ⟨by simp [thD], by simp [thD], by simp [thD], by simp [thD], (stmtsOk_iff _).2 hok⟩
  have hZ : declSz [thD k l] ≤ 100000000 := by
    have : (⟨#[116]⟩ : ByteArray).size = 1 := rfl
    simp [declSz, DeclV.sz, thD, strSz, this]
    omega
  have h := p_May (k := .exact) hO hZ
  rw [thD_may hm hd] at h
  exact PCall.nrm h (by kernel_rfl)
theorem maySs_mem {l : List StmtV} {s : StmtV} (h : maySs l = true) (hs : s ∈ l) : mayS s = true := by
  rw [maySs_all] at h
  exact List.all_eq_true.1 h s hs
theorem mayEs_mem {l : List ExprV} {s : ExprV} (h : mayEs l = true) (hs : s ∈ l) : mayE s = true := by
  rw [mayEs_all] at h
  exact List.all_eq_true.1 h s hs
theorem depSs_mem : ∀ {l : List StmtV} {s : StmtV}, s ∈ l → depS s ≤ depSs l
  | [], _, h => by simp at h
  | x :: l, s, h => by
    rw [depSs]
    rcases List.mem_cons.1 h with rfl | h
    · omega
    · have := depSs_mem h; omega
theorem p_within : ∀ (z : Nat) (l : List StmtV), stmtSz l = z → (∀ s ∈ l, s.Ok) → maySs l = true → depSs l ≤ 60 → stmtSz l ≤ 10000000 → ∀ k, PCall Tryd.prog 26 [.sl k 8 (stmtCells l)] (bl true) := by
  intro z
  induction z using Nat.strongRecOn with
  | _ z ih =>
    intro l hz hok hm hd hsz k
    have hll := stmtSz_len l
    obtain ⟨cb1, eb1⟩ : ∃ c, (.loop a_bobbinlaw02_withinb1 : ACode) = c := ⟨_, rfl⟩
    obtain ⟨cb2, eb2⟩ : ∃ c, (.loop a_bobbinlaw02_withinb2 : ACode) = c := ⟨_, rfl⟩
    refine PCall.of fun N => acall mixed c_bobbinlaw02_within (by simp) ?_
    simp [a_bobbinlaw02_within]
    refine run_loop (fun m s => ∃ j : Nat, j ≤ l.length ∧ m = l.length - j ∧ s.A 0 = .sl k 8 (stmtCells l) ∧ s.A 3 = i64 j) l.length ?_ ?_
    · exact ⟨0, by omega, by omega, by simp, by simp⟩
    · rintro m A1 H1 N1 ⟨j, hj, rfl, e0, e3⟩
      simp only at e0 e3
      unfold a_bobbinlaw02_withinb3
      rw [eb1, eb2]
      by_cases hjl : j < l.length
      · have n1 : (j : Int) < l.length := by omega
        obtain ⟨x, hx⟩ : ∃ x, l[j]? = some x := ⟨l[j], List.getElem?_eq_getElem hjl⟩
        have hxm := List.mem_of_getElem? hx
        have hxs := stmtSz_mem hxm
        have hse := x.sz_eq
        have hle := exprSz_len x.e
        have hsd := depSs_mem hxm
        have hsq := depS_eq x
        have hms := maySs_mem hm hxm
        have hms1 := hms
        rw [mayS_eq] at hms
        simp only [Bool.and_eq_true] at hms
        obtain ⟨_, he, hb, hl⟩ := hms
        obtain ⟨_, ok1, ok2, ok3⟩ := (hok x hxm).eq
        have hq : aindex 8 (.sl k 8 (stmtCells l)) (i64 (j : Nat)) = some (.ip x.cells 0) := aindex_sl (by omega) (by simpa using stmtCells_at hx)
        have hce := x.cells_eq
        rw [hce] at hq
        have hw : IntKind.i64.wrap ((j : Int) + 1) = ((j + 1 : Nat) : Int) := by rw [wrap_i64 (by omega) (by omega)]; rfl
        simp [e0, e3, stmtCells_len, n1]
        rw [← eb2]
        refine run_loop (fun m s => ∃ i : Nat, i ≤ x.e.length ∧ m = x.e.length - i ∧ s.A 0 = .sl k 8 (stmtCells l) ∧ s.A 3 = i64 j ∧ s.A 4 = i64 i) x.e.length ?_ ?_
        · exact ⟨0, by omega, by omega, by simp [e0], by simp [e3], by simp⟩
        · rintro m A2 H2 N2 ⟨i, hi, rfl, f0, f3, f4⟩
          simp only at f0 f3 f4
          by_cases hil : i < x.e.length
          · have m1 : (i : Int) < x.e.length := by omega
            obtain ⟨y, hy⟩ : ∃ y, x.e[i]? = some y := ⟨x.e[i], List.getElem?_eq_getElem hil⟩
            have hym := List.mem_of_getElem? hy
            have hys := exprSz_mem hym
            have hr : aindex 5 (.sl x.ke 5 (exprCells x.e)) (i64 (i : Nat)) = some (.ip y.cells 0) := aindex_sl (by omega) (by simpa using exprCells_at hy)
            have hyl : y.cells.length = 5 := by rw [y.cells_eq]; rfl
            have hwi : IntKind.i64.wrap ((i : Int) + 1) = ((i + 1 : Nat) : Int) := by rw [wrap_i64 (by omega) (by omega)]; rfl
            have hME := p_MayExpr y (ok1 y hym) (by omega)
            rw [mayEs_mem he hym] at hME
            simp [a_bobbinlaw02_withinb2, f0, f3, f4, hq, exprCells_len, m1, hr, hyl, take_len hyl]
            refine hME.acall ?_
            simp [f0, f3, f4, hwi]
            exact ⟨x.e.length - (i + 1), by omega, i + 1, by omega, rfl, rfl⟩
          · have m1 : ¬ (i : Int) < x.e.length := by omega
            have hp0 := p_th (k := .exact) (l := [x]) (by simpa using hok x hxm) (by simp [maySs, hms1]) (by simp [depSs]; omega) (by simp [stmtSz]; omega)
            have hp1 := p_th (k := x.kb) ok2 hb (by omega) (by omega)
            have hp2 := p_th (k := x.kl) ok3 hl (by omega) (by omega)
            simp only [stmtCells] at hp0
            simp [a_bobbinlaw02_withinb2, f0, f3, f4, hq, exprCells_len, m1, splice]
            rw [← hce, ← eb1]
            refine run_loop (fun m s => ∃ i : Nat, i ≤ 3 ∧ m = 3 - i ∧ s.A 0 = .sl k 8 (stmtCells l) ∧ s.A 3 = i64 j ∧ s.A 48 = .sl .exact 1 [[.sl .exact 8 [x.cells]], [.sl x.kb 8 (stmtCells x.body)], [.sl x.kl 8 (stmtCells x.els)]] ∧ s.A 49 = i64 3 ∧ s.A 50 = i64 i) 3 ?_ ?_
            · exact ⟨0, by omega, by omega, by simp [f0], by simp [f3], by simp, by simp, by simp⟩
            · rintro m A3 H3 N3 ⟨i, hi, rfl, g0, g3, g48, g49, g50⟩
              simp only at g0 g3 g48 g49 g50
              have hwi : IntKind.i64.wrap ((i : Int) + 1) = ((i + 1 : Nat) : Int) := by rw [wrap_i64 (by omega) (by omega)]; rfl
              have hi3 : i = 0 ∨ i = 1 ∨ i = 2 ∨ i = 3 := by omega
              rcases hi3 with rfl | rfl | rfl | rfl
              · simp [a_bobbinlaw02_withinb1, g48, g49, g50, splice, ai0, ai1, ai2]
                refine PCall.acall hp0 ?_
                simp [g0, g3, g48, g49, g50]
                exact ⟨2, by omega, 1, by omega, by omega, rfl⟩
              · simp [a_bobbinlaw02_withinb1, g48, g49, g50, splice, ai0, ai1, ai2]
                refine PCall.acall hp1 ?_
                simp [g0, g3, g48, g49, g50]
                exact ⟨1, by omega, 2, by omega, by omega, rfl⟩
              · simp [a_bobbinlaw02_withinb1, g48, g49, g50, splice, ai0, ai1, ai2]
                refine PCall.acall hp2 ?_
                simp [g0, g3, g48, g49, g50]
                exact ⟨3, by omega, by omega, rfl⟩
              · simp [a_bobbinlaw02_withinb1, g0, g3, g48, g49, g50, hq]
                refine (ih (stmtSz x.body) (by omega) x.body rfl ok2 hb (by omega) (by omega) x.kb).acall ?_
                simp [g0, g3, hq]
                refine (ih (stmtSz x.els) (by omega) x.els rfl ok3 hl (by omega) (by omega) x.kl).acall ?_
                simp [g0, g3, hw]
                exact ⟨l.length - (j + 1), by omega, j + 1, by omega, rfl, rfl⟩
      · have n1 : ¬ (j : Int) < l.length := by omega
        simp [e0, e3, stmtCells_len, n1]
        exact .free rfl
end Go.Proofs.YtebopfpgicamiaaDoor
