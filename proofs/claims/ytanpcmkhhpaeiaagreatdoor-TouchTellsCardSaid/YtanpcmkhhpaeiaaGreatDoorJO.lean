/- touch: the law TouchTells. -/
import Derived.Test.YtanpcmkhhpaeiaaGreatDoorJV
import Derived.Test.YtanpcmkhhpaeiaaGreatDoorJI
import Derived.Test.YtanpcmkhhpaeiaaGreatDoorTH
import Derived.Test.YtanpcmkhhpaeiaaGreatDoorKG
namespace Go.Proofs.YtanpcmkhhpaeiaaGreatDoor
set_option linter.unusedSimpArgs false
set_option linter.unusedVariables false
open Go Go.Fw
/-- So many rows. -/
def rowsN (p : PrgV) : Nat := if prgB p = true then p.funs.length else 0
def errN (p : PrgV) : Int := if prgB p = true then 0 else 4
def OfT (p : PrgV) (k : Nat) (s : SumV) : Prop := IsSum (ownP p) (Rchd (ownP p) k) s
theorem p_OfU {p : PrgV} (hp : p.Fit) (hs : p.Shr) (H : AHeap) (N : Nat) : ACall Tryz.prog 12 [.agg p.cells] H N (fun r H' N' => N ≤ N' ∧ (∀ j, j < N → H' j = H j) ∧
    ∃ v es ar bd, r = .tup [v, i64 (errN p)] ∧ Arr H' N es v ar ∧ es.length = rowsN p ∧ BdOk bd es.length N N' ∧ Rows5B H' bd ar es (OfT p)) := by
  refine (p_OfB hp hs H N).monoF ?_
  rintro r H' N' ⟨h1, h2, ⟨hb, rfl⟩ | ⟨hb, v, es, ar, rfl, h3, h4, bd, h5, h6⟩⟩ hF hN
  · exact ⟨h1, h2, .sl .nil 0 [], [], 0, fun _ => N, by simp [errN, hb], ⟨by simp, .inl ⟨rfl, rfl⟩⟩, by simp [rowsN, hb], ⟨fun _ _ _ _ => Nat.le_refl _, Nat.le_refl _, hN⟩, .nil⟩
  · exact ⟨h1, h2, v, es, ar, bd, by simp [errN, hb], h3, by simp [rowsN, hb, h4], h5, h6⟩
theorem p_refOfU {p : PrgV} (hp : p.Fit) (hs : p.Shr) (H : AHeap) (N : Nat) : ACall Tryz.prog 13 [.agg p.cells] H N (fun r H' N' => N ≤ N' ∧ (∀ j, j < N → H' j = H j) ∧
    ∃ v es ar, r = .tup [v, i64 (errN p)] ∧ Arr H' N es v ar ∧ es.length = rowsN p ∧ Rows5 H' N ar es (OfT p)) := by
  refine (p_refOf hp hs H N).monoF ?_
  rintro r H' N' ⟨h1, h2, ⟨hb, rfl⟩ | ⟨hb, v, es, ar, rfl, h3, h4, h6⟩⟩ hF hN
  · exact ⟨h1, h2, .sl .nil 0 [], [], 0, by simp [errN, hb], ⟨by simp, .inl ⟨rfl, rfl⟩⟩, by simp [rowsN, hb], .nil⟩
  · exact ⟨h1, h2, v, es, ar, by simp [errN, hb], h3, by simp [rowsN, hb, h4], h6⟩
theorem few_le {f : FunV} (h : FewF f) : (ownV f.code).le 1000 := by
  obtain ⟨q1, q2, q3, q4, q5⟩ := ownV_le f.code
  have := h.1
  exact ⟨by omega, by omega, by omega, by omega, by omega⟩
theorem le_up {s : SumV} {m n : Nat} (h : s.le m) (hmn : m ≤ n) : s.le n := by
  obtain ⟨a, b, c, d, e⟩ := h
  exact ⟨by omega, by omega, by omega, by omega, by omega⟩

theorem built_lstT {H : AHeap} {lo : Nat} {l : List Int} {v : AV} (h : Built H lo 1 (.sl .nil 0 []) (intCells l) v) : Lst H l v := by
  obtain ⟨_, ⟨h1, rfl, _⟩ | ⟨_, id, h1, h2, h3⟩⟩ := h
  · have : l = [] := List.map_eq_nil_iff.1 h1
    subst this
    exact .nil _ _
  · rw [intCells_len] at h2
    rw [intCells_flat] at h3
    exact .inr ⟨id, 0, _, h2, h3, by simp, by rw [List.drop_zero]; exact List.take_of_length_le (by simp)⟩

section
variable {p : PrgV} {A : Nat → AV} {H : AHeap} {N : Nat} {fs : List Fr} {Q : Post}
theorem tt_b1 {c : ACode} (hc : .loop a_bobbinlaw18_TouchTellsb1 = c) (hn : p.funs.length ≤ 20) (hfew : ∀ f ∈ p.funs, FewF f) (h1 : A 1 = .ip p.cells 0) (h9 : A 9 = i64 0) (hF : Fresh H N)
    (hk : ∀ A' H' N', A' 1 = A 1 → A' 3 = A 3 → Fresh H' N' → onward Tryz.prog fs Q .normal ⟨A', H', N'⟩) : run Tryz.prog c (.blk 4 :: fs) Q ⟨A, H, N⟩ := by
  subst hc
  have hlen : alen 1 (.sl p.fk 5 (funCells p.funs)) = some (p.funs.length : Int) := by simp [alen, funCells]
  have ld2 : aload (fun _ => none) false 1 (.ip p.cells 2) = some (.sl p.fk 5 (funCells p.funs)) := rfl
  refine run_loop (fun m s => ∃ j : Nat, j ≤ p.funs.length ∧ m = p.funs.length - j ∧ s.A 1 = A 1 ∧ s.A 3 = A 3 ∧ s.A 9 = i64 j ∧ Fresh s.H s.N) p.funs.length ?_ ?_
  · exact ⟨0, by omega, by omega, rfl, rfl, h9, hF⟩
  · rintro m A1 H1 N1 ⟨j, hj, rfl, e1, e3, e9, hF1⟩
    simp only at e1 e3 e9 hF1
    rw [h1] at e1
    by_cases hjl : j < p.funs.length
    · have n1 : (j : Int) < p.funs.length := by omega
      obtain ⟨f, hf⟩ : ∃ f, p.funs[j]? = some f := ⟨p.funs[j], List.getElem?_eq_getElem hjl⟩
      have hfm := List.mem_of_getElem? hf
      have hfw := hfew f hfm
      have hcl := hfw.1
      have hle := few_le hfw
      have hq2 : aindex 5 (.sl p.fk 5 (funCells p.funs)) (i64 (j : Nat)) = some (.ip f.cells 0) := aindex_sl (by omega) (by simp [funCells, hf])
      have lf : ∀ X, aload X true 5 (.ip f.cells 0) = some (.agg f.cells) := fun X => rfl
      have hfc : f.cells = [str f.name, bl f.thread, i64 f.params, i64 f.regs, .sl f.k 6 (codeCells f.code)] := rfl
      rw [hfc] at hq2 lf
      simp [a_bobbinlaw18_TouchTellsb1, e1, e9, ld2, hlen, n1, hq2, lf, -aload, -alen]
      refine (p_Own (code := f.code) (.sl _) rfl rfl rfl rfl (by omega) N1).monoF ?_
      rintro r2 H2 N2 ⟨hN2, hk2, v1, v2, v3, v4, v5, rfl, hv⟩ hF2 _
      simp
      refine (p_back (S := ownV f.code) (P := fun id => N1 ≤ id ∧ id < N2) (hv.v fun id o h1 h2 => ⟨h1, hF2.lt h2⟩) (le_up hle (by omega)) N2).monoF ?_
      rintro r3 H3 N3 ⟨hN3, hk3, k0, k1, k2, k3, k4, rfl⟩ hF3 _
      simp
      refine (p_refOwn (code := f.code) (.sl _) rfl rfl rfl rfl (by omega) N3).monoF ?_
      rintro r4 H4 N4 ⟨hN4, hk4, u1, u2, u3, u4, u5, rfl, hu⟩ hF4 _
      simp
      refine (p_Same (s := ownV f.code) (t := ownV f.code) ⟨.sl _, .sl _, .sl _, .sl _, .sl _⟩ hu.at (le_up hle (by omega)) N4).mono ?_
      rintro r5 H5 N5 ⟨rfl, rfl, rfl⟩
      have hwi : IntKind.i64.wrap ((j : Int) + 1) = ((j + 1 : Nat) : Int) := by rw [wrap_i64 (by omega) (by omega)]; rfl
      simp [e9, hwi]
      exact ⟨p.funs.length - (j + 1), by omega, j + 1, by omega, rfl, by simp [e1, h1], by simp [e3], by simp, hF4⟩
    · have n1 : ¬ (j : Int) < p.funs.length := by omega
      simp [a_bobbinlaw18_TouchTellsb1, e1, e9, ld2, hlen, n1, -aload, -alen]
      exact hk _ _ _ (by simp [e1, h1]) (by simp [e3]) hF1

/-- Rows from one on. -/
def RowsG (H : AHeap) (bd : Nat → Nat) (ar : Nat) (es : List (List AV)) (T : Nat → SumV → Prop) (i : Nat) : Prop :=
  ∀ (k : Nat) (x : List AV), i ≤ k → es[k]? = some x → ∃ a b c d e s, x = [a, b, c, d, e] ∧ AtV H (fun id => bd k ≤ id ∧ id < bd (k + 1) ∧ id ≠ ar) s a b c d e ∧ T k s
theorem tt_b2 {c : ACode} (hc : .loop a_bobbinlaw18_TouchTellsb2 = c) {v w : AV} {es fs2 : List (List AV)} {ar br lo n lo2 : Nat} {bd : Nat → Nat} (hT : ∀ k s, k < n → OfT p k s → s.le 1000000) (h4 : A 4 = v) (h6 : A 6 = w) (h8 : A 8 = i64 0) (hF : Fresh H N)
    (hv : Arr H lo es v ar) (hw : Arr H lo2 fs2 w br) (he : es.length = n) (hf : fs2.length = n) (hn : n ≤ 1000) (hbd : BdOk bd n lo lo2) (hlo2 : lo2 ≤ N)
    (hr : RowsG H bd ar es (OfT p) 0) (hs : Rows5 H lo2 br fs2 (OfT p))
    (hk : ∀ A' H' N', A' 1 = A 1 → A' 3 = A 3 → Fresh H' N' → onward Tryz.prog fs Q .normal ⟨A', H', N'⟩) : run Tryz.prog c (.blk 2 :: fs) Q ⟨A, H, N⟩ := by
  subst hc
  have hlv : alen 1 v = some (n : Int) := by rw [← he]; exact hv.rd.len
  have hsz := hv.1
  have hsz2 := hw.1
  refine run_loop (fun m s => ∃ j : Nat, j ≤ n ∧ m = n - j ∧ s.A 1 = A 1 ∧ s.A 3 = A 3 ∧ s.A 4 = v ∧ s.A 6 = w ∧ s.A 8 = i64 j ∧ N ≤ s.N ∧ Fresh s.H s.N ∧ Arr s.H lo es v ar ∧ Arr s.H lo2 fs2 w br ∧ RowsG s.H bd ar es (OfT p) j ∧ Rows5 s.H lo2 br fs2 (OfT p)) n ?_ ?_
  · exact ⟨0, by omega, by omega, rfl, rfl, h4, h6, h8, Nat.le_refl _, hF, hv, hw, hr, hs⟩
  · rintro m A1 H1 N1 ⟨j, hj, rfl, e1, e3, e4, e6, e8, hN1, hF1, hv1, hw1, hr1, hs1⟩
    simp only at e1 e3 e4 e6 e8 hN1 hF1 hv1 hw1 hr1 hs1
    by_cases hjl : j < n
    · have n1 : (j : Int) < n := by omega
      obtain ⟨x, hx⟩ : ∃ x, es[j]? = some x := ⟨es[j], List.getElem?_eq_getElem (by omega)⟩
      obtain ⟨y, hy⟩ : ∃ y, fs2[j]? = some y := ⟨fs2[j], List.getElem?_eq_getElem (by omega)⟩
      obtain ⟨q, hq, hqp⟩ := hv1.rd.at hsz hx
      obtain ⟨r, hr2, hrp⟩ := hw1.rd.at hsz2 hy
      obtain ⟨a, b, c, d, e, s, rfl, hat, hts⟩ := hr1 j x (Nat.le_refl _) hx
      obtain ⟨a', b', c', d', e', s', rfl, hat', hts'⟩ := hs1 j y hy
      obtain rfl : s = s' := hts.uniq hts' fun _ => Iff.rfl
      have hsl := hT j s hjl hts
      have l1 : aload H1 true 5 q = some (.agg [a, b, c, d, e]) := hqp.load
      have l2 : aload H1 true 5 r = some (.agg [a', b', c', d', e']) := hrp.load
      have hbj1 : lo ≤ bd j := Nat.le_trans hbd.2.1 (hbd.1 0 j (by omega) (by omega))
      have hbj2 : bd (j + 1) ≤ lo2 := Nat.le_trans (hbd.1 (j + 1) n (by omega) (by omega)) hbd.2.2
      simp [a_bobbinlaw18_TouchTellsb2, e4, e6, e8, hlv, n1, hq, hr2, l1, -aload, -alen]
      refine draw_call_load (v := .agg [a', b', c', d', e']) (Post' := fun r H' N' => N1 ≤ N' ∧ Fresh H' N' ∧ (∀ i, i < N1 → ¬ (bd j ≤ i ∧ i < bd (j + 1) ∧ i ≠ ar) → H' i = H1 i) ∧ ∃ k0 k1 k2 k3 k4, r = .agg [.sl k0 1 (intCells s.r), .sl k1 1 (intCells s.w), .sl k2 1 (intCells s.t), .sl k3 1 (intCells s.g), .sl k4 1 (intCells s.c)]) (by omega) (by omega) (by omega) (by omega) (by simp [l2, -aload]) (fun A' Q' hA' hqq => ?_) (fun r5 H' N' hp => ?_) fun r5 H' N' hp => ?_
      · have h54 : A' 54 = .agg [a, b, c, d, e] := (hA' 54 (by omega)).trans (by simp)
        simp [h54]
        refine (p_back hat hsl N1).monoF ?_
        rintro r6 H6 N6 ⟨q1, q2, q3⟩ hF6 _
        simp
        exact hqq _ _ _ ⟨q1, hF6, q2, q3⟩
      · obtain ⟨q1, q2, q3, _⟩ := hp
        have hw2 : Arr H' lo2 fs2 w br := hw1.keep hF1 fun i h1 h2 => q3 i h2 (by omega)
        obtain ⟨r', hr', hrp'⟩ := hw2.rd.at hsz2 hy
        have : r' = r := Option.some.inj (hr'.symm.trans hr2)
        subst this
        have hll : aload H' true 5 r' = some (.agg [a', b', c', d', e']) := hrp'.load
        simp [hll, -aload]
      · obtain ⟨q1, q2, q3, k0, k1, k2, k3, k4, rfl⟩ := hp
        have hat2 : AtV H' (fun id => lo2 ≤ id ∧ id ≠ br) s a' b' c' d' e' := hat'.keep hF1 (fun id h1 h2 => q3 id h2 (by omega)) fun id h1 _ => h1
        simp
        refine (p_Same (s := s) (t := s) ⟨.sl _, .sl _, .sl _, .sl _, .sl _⟩ ⟨hat2.r.lst, hat2.w.lst, hat2.t.lst, hat2.g.lst, hat2.c.lst⟩ (le_up hsl (by omega)) N').mono ?_
        rintro r6 H6 N6 ⟨rfl, rfl, rfl⟩
        have hwi : IntKind.i64.wrap ((j : Int) + 1) = ((j + 1 : Nat) : Int) := by rw [wrap_i64 (by omega) (by omega)]; rfl
        simp [e8, hwi]
        refine ⟨n - (j + 1), by omega, j + 1, by omega, rfl, by simp [e1], by simp [e3], by simp [e4], by simp [e6], by simp, by omega, q2, ?_, ?_, ?_, ?_⟩
        · refine ⟨hsz, ?_⟩
          obtain ⟨_, h0 | ⟨h0, h1, h2, h3⟩⟩ := hv1
          · exact .inl h0
          · exact .inr ⟨h0, h1, h2, (q3 ar (hF1.lt h3) (by omega)).trans h3⟩
        · exact hw1.keep hF1 fun i h1 h2 => q3 i h2 (by omega)
        · intro k z hkz hz
          have hkn : k < n := by have := (List.getElem?_eq_some_iff.1 hz).1; omega
          have hjk := hbd.1 (j + 1) k (by omega) (by omega)
          obtain ⟨a, b, c, d, e, s, rfl, g1, g2⟩ := hr1 k z (by omega) hz
          exact ⟨a, b, c, d, e, s, rfl, g1.keep hF1 (fun id h1 h2 => q3 id h2 (by omega)) fun id h1 _ => h1, g2⟩
        · exact hs1.keep hF1 fun i h1 h2 => q3 i h2 (by omega)
    · have n1 : ¬ (j : Int) < n := by omega
      simp [a_bobbinlaw18_TouchTellsb2, e4, e8, hlv, n1, -alen]
      exact hk _ _ _ (by simp [e1]) (by simp [e3]) hF1

theorem tt_b3 {c : ACode} (hc : .loop a_bobbinlaw18_TouchTellsb3 = c) (hp : p.Fit) (hs : p.Shr) (hn : p.funs.length ≤ 20) (hfew : ∀ f ∈ p.funs, FewF f) (h1 : A 1 = .ip p.cells 0) (h3 : A 3 = i64 0) (hF : Fresh H N)
    (hk : ∀ A' H' N', Fresh H' N' → onward Tryz.prog fs Q .normal ⟨A', H', N'⟩) : run Tryz.prog c (.blk 0 :: fs) Q ⟨A, H, N⟩ := by
  subst hc
  obtain ⟨c1, ec1⟩ : ∃ c, (.loop a_bobbinlaw18_TouchTellsb1 : ACode) = c := ⟨_, rfl⟩
  obtain ⟨c2, ec2⟩ : ∃ c, (.loop a_bobbinlaw18_TouchTellsb2 : ACode) = c := ⟨_, rfl⟩
  have lp : aload (fun _ => none) true 3 (.ip p.cells 0) = some (.agg p.cells) := rfl
  have hrn : rowsN p ≤ p.funs.length := by unfold rowsN; split <;> omega
  refine run_loop (fun m s => ∃ j : Nat, j ≤ 2 ∧ m = 2 - j ∧ s.A 1 = A 1 ∧ s.A 3 = i64 j ∧ Fresh s.H s.N) 2 ?_ ?_
  · exact ⟨0, by omega, by omega, rfl, h3, hF⟩
  · rintro m A1 H1 N1 ⟨j, hj, rfl, e1, e3, hF1⟩
    simp only at e1 e3 hF1
    rw [h1] at e1
    by_cases hjl : j < 2
    · have n1 : (j : Int) < 2 := by omega
      unfold a_bobbinlaw18_TouchTellsb3
      rw [ec1, ec2]
      simp [e1, e3, n1, lp, -aload]
      refine (p_OfU hp hs H1 N1).monoF ?_
      rintro r2 H2 N2 ⟨hN2, hk2, v, es, ar, bd, rfl, hA2, hel, hbd, hR2⟩ hF2 _
      simp [e1, lp, -aload]
      refine (p_refOfU hp hs H2 N2).monoF ?_
      rintro r3 H3 N3 ⟨hN3, hk3, w, fs2, br, rfl, hA3, hel3, hR3⟩ hF3 _
      have lv : alen 1 v = some (rowsN p : Int) := by rw [← hel]; exact hA2.rd.len
      have lw : alen 1 w = some (rowsN p : Int) := by rw [← hel3]; exact hA3.rd.len
      simp [e1, lp, lv, lw, -aload, -alen]
      refine (p_tThreads (p := p) (by omega) H3 N3).monoF ?_
      rintro r4 H4 N4 ⟨hN4, hk4, hB4⟩ hF4 _
      simp
      refine (p_rThreads (p := p) (by omega) H4 N4).monoF ?_
      rintro r5 H5 N5 ⟨hN5, hk5, hB5⟩ hF5 _
      have hB45 : Lst H5 (thrL p.funs) r4 := (built_lstT hB4).keep hF4 hk5
      have hB55 := built_lstT hB5
      have htl := thrL_len p.funs
      have hm : maxLen = 9223372036854775807 := rfl
      simp
      refine (p_Ints (la := thrL p.funs) (lb := thrL p.funs) hB45.rd hB55.rd (by omega) N5).mono ?_
      rintro r6 H6 N6 ⟨rfl, h6e, n6e⟩
      rw [h6e, n6e]
      simp
      have k52 : ∀ i, i < N3 → H5 i = H3 i := fun i hi => (hk5 i (by omega)).trans (hk4 i (by omega))
      have hG1 : Arr H5 N1 es v ar := hA2.keep hF2 fun i _ hi => (k52 i (by omega)).trans (hk3 i hi)
      have hG2 : RowsG H5 bd ar es (OfT p) 0 := fun k x _ hx => by
        obtain ⟨a, b, c, d, e, s, rfl, g1, g2⟩ := hR2 k x hx
        exact ⟨a, b, c, d, e, s, rfl, g1.keep hF2 (fun id _ h2 => (k52 id (by omega)).trans (hk3 id h2)) fun id h1 _ => h1, g2⟩
      refine tt_b2 (p := p) ec2 (n := rowsN p) (lo := N1) (lo2 := N2) (bd := bd) (ar := ar) (br := br) (es := es) (fs2 := fs2) (fun k s hkn hks => ?_) (by simp) (by simp) (by simp) hF5 hG1 (hA3.keep hF3 fun i _ hi => k52 i hi) hel hel3 (by omega) (by rw [← hel]; exact hbd) (by omega) hG2 (hR3.keep hF3 fun i _ hi => k52 i hi) fun A7 H7 N7 g1 g3 hF7 => ?_
      · have hb : prgB p = true := by
          cases hb : prgB p with
          | true => rfl
          | false => simp [rowsN, hb] at hkn
        have hkl : k < p.funs.length := by omega
        have hC : PrgC p := ⟨hs, calls_in hb⟩
        have hRc : ∀ m, Rchd (ownP p) k m → m < p.funs.length := fun m hm => hC.rn hkl p.funs.length ((Rn.all hkl hC.call m).2 hm)
        have := IsSum.le hks hRc (M := 1000) fun i hi => by
          unfold ownP
          rw [List.getElem?_eq_getElem hi]
          exact few_le (hfew _ (List.getElem_mem hi))
        refine le_up this ?_
        have : p.funs.length * 1000 ≤ 20 * 1000 := Nat.mul_le_mul_right _ hn
        omega
      · have f1 : A7 1 = .ip p.cells 0 := g1.trans (by simp [e1])
        have f3 : A7 3 = i64 j := g3.trans (by simp [e3])
        simp
        refine tt_b1 (p := p) ec1 hn hfew (by simp [f1]) (by simp) hF7 fun A8 H8 N8 g1 g3 hF8 => ?_
        have f1' : A8 1 = .ip p.cells 0 := g1.trans (by simp [f1])
        have f3' : A8 3 = i64 j := g3.trans (by simp [f3])
        have hwi : IntKind.i64.wrap ((j : Int) + 1) = ((j + 1 : Nat) : Int) := by rw [wrap_i64 (by omega) (by omega)]; rfl
        simp [f3', hwi]
        exact ⟨2 - (j + 1), by omega, j + 1, by omega, rfl, by simp [f1', h1], by simp, hF8⟩
    · have n1 : ¬ (j : Int) < 2 := by omega
      unfold a_bobbinlaw18_TouchTellsb3
      rw [ec1, ec2]
      simp [e3, n1]
      exact hk _ _ _ hF1
end

theorem p_TouchTells {p : PrgV} (hp : p.Rch) (H : AHeap) (N : Nat) : ACall Tryz.prog 3 [.agg p.cells] H N (fun r H' N' => r = bl true) := by
  obtain ⟨c3, e3⟩ : ∃ c, (.loop a_bobbinlaw18_TouchTellsb3 : ACode) = c := ⟨_, rfl⟩
  have lp : ∀ X, aload X true 3 (.ip p.cells 0) = some (.agg p.cells) := fun X => rfl
  refine acallF mixed c_bobbinlaw18_TouchTells (by simp) fun hF => ?_
  unfold a_bobbinlaw18_TouchTells
  rw [e3]
  simp [lp, aload_ip, -aload]
  refine (p_long hp H N).mono ?_
  rintro r1 H1 N1 ⟨rfl, rfl, b, rfl, hb⟩
  cases b with
  | true =>
    simp
    refine (p_awake H1 N1).mono ?_
    rintro r2 H2 N2 ⟨rfl, _⟩
    simp
  | false =>
    obtain ⟨hm, hl, hn20, hfew⟩ := hb rfl
    simp
    refine tt_b3 e3 (few_fit hp hm hl hn20 hfew) (few_shr hn20 hfew) hn20 hfew (by simp) (by simp) hF fun A4 H4 N4 hF4 => ?_
    simp
    refine (p_awake H4 N4).mono ?_
    rintro r2 H2 N2 ⟨rfl, _⟩
    simp
end Go.Proofs.YtanpcmkhhpaeiaaGreatDoor
