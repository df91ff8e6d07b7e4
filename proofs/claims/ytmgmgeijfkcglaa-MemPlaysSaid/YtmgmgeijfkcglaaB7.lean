/- The reference's memory: Copy. -/
import Derived.Test.YtmgmgeijfkcglaaB6
namespace Go.Proofs.Ytmgmgeijfkcglaa
set_option linter.unusedSimpArgs false
set_option linter.unusedVariables false
open Go Go.Fw
attribute [local simp] Value.oneCell' anil aidxs noHeap_or set_or

theorem app_copy {H : AHeap} {N b : Nat} {y : AV} {es : List AV} (hF : Fresh H N) (hsrc : asrc H 1 y = some (es, es.length)) (hb : es.length * b ≤ lim) (hl : es.length ≤ 9223372036854775807) :
    ∃ v' H' N', aappend false 1 b H N (.sl .exact 1 []) y = some (v', H', N') ∧ SlAt H' v' es N ∧ N ≤ N' ∧ (es ≠ [] → N' = N + 1) ∧ (∀ j, j < N → H' j = H j) ∧ Fresh H' N' := by
  by_cases h : es.length = 0
  · have he : es = [] := List.eq_nil_of_length_eq_zero h
    refine ⟨.sl .exact 1 [], H, N, ?_, .inr ⟨he, rfl⟩, Nat.le_refl _, fun hn => absurd he hn, fun _ _ => rfl, hF⟩
    simp only [aappend, hsrc, h, if_true]
  · refine ⟨.ms N 0 es.length 1, H.set N (.blk es), N + 1, ?_, .inl ⟨rfl, by simp [AHeap.set]⟩, by omega, fun _ => rfl, fun j hj => by simp only [AHeap.set]; rw [if_neg (by omega)], hF.set _⟩
    simp only [aappend, hsrc]
    rw [if_neg h, if_pos ⟨.inl trivial, by simpa using hb, by simpa using hl⟩]
    simp
theorem SlAt.old {H H' : AHeap} {N id : Nat} {v : AV} {es : List AV} (h : SlAt H v es id) (hF : Fresh H N) (ho : ∀ j, j < N → H' j = H j) : SlAt H' v es id := h.imp (fun ⟨a, b⟩ => ⟨a, by rw [ho id (hF.lt b), b]⟩) (fun h => h)
def RCopyAns (H : AHeap) (rows : List (List Int)) (fl : List Bool) (by_ : List Int) (r : AV) (H' : AHeap) : Prop :=
  ∃ c fid bid cid rids fv bv Hc, r = .mp c 0 ∧ IsRef Hc c fid bid cid rids rows fv bv fl by_ ∧ Hc.le H' ∧ H.le H' ∧ Dis H Hc
section
variable {H : AHeap} {x fid bid cid : Nat} {rids : List Nat} {rows : List (List Int)} {fv bv : AV} {fl : List Bool} {by_ : List Int}
theorem p_rCopy (hM : IsRef H x fid bid cid rids rows fv bv fl by_) (hfll : fl.length ≤ 1000) (N0 : Nat) : ACall Try.prog 30 [.mp x 0] H N0 (fun r H' N' => RCopyAns H rows fl by_ r H') := by
  have hx := hM.hx
  have hn := hM.hn
  have hll := hM.hl
  have hfy := hM.hfl
  refine acallF mixed c_bobbinref08_Mem_Copy (by simp) fun hF => ?_
  obtain ⟨cb, eb⟩ : ∃ c, (.loop a_bobbinref08_Mem_Copyb1 : ACode) = c := ⟨_, rfl⟩
  have hkp : keepOk H N0 (.sl .exact 1 []) = true := by simp [keepOk, hF N0 (Nat.le_refl _)]
  obtain ⟨v1, H1, N1, ha1, hs1, hN1, hN1', old1, hF1⟩ := app_copy (b := 1) hF hM.hf.src (by rw [blC_len]; simp only [lim]; omega) (by rw [blC_len]; omega)
  have hsrc2 : asrc H1 1 bv = some (inC by_, (inC by_).length) := by
    exact (hM.hy.old hF old1).src
  obtain ⟨v2, H2, N2, ha2, hs2, hN2, hN2', old2, hF2⟩ := app_copy (b := 8) hF1 hsrc2 (by rw [inC_len]; simp only [lim]; omega) (by rw [inC_len]; omega)
  have cv1 := hs1.cells
  have cv2 := hs2.cells
  have hcf := hM.hf.cells
  have hcy := hM.hy.cells
  have hlx := hF.lt hx
  have hx1 : H1 x = some (.blk [if rids = [] then .sl .nil 0 [] else .ms cid 0 rids.length 1, fv, bv]) := by rw [old1 x hlx, hx]
  obtain ⟨cv, hcv⟩ : ∃ v, (if rids = [] then (.sl .nil 0 [] : AV) else .ms cid 0 rids.length 1) = v := ⟨_, rfl⟩
  rw [hcv] at hx hx1
  unfold a_bobbinref08_Mem_Copy
  rw [eb]
  simp [nilOf, hx, hx1, hkp, ha1, ha2, cv1, cv2, splice, -AV.cells]
  have hcl : alen 1 cv = some (rows.length : Int) := by
    rw [← hcv, ← hll]
    split
    · rename_i h; rw [h]; rfl
    · rfl
  have hF3 : Fresh (H2.set N2 (.blk [.sl .nil 0 [], v1, v2])) (N2 + 1) := hF2.set _
  have old : ∀ j, j < N0 → H2 j = H j := fun j hj => by rw [old2 j (by omega), old1 j hj]
  have hcc : cv.cells = some [cv] := by rw [← hcv]; split <;> rfl
  rw [← eb]
  refine run_loop (fun m s => ∃ (i : Nat) (v : AV) (rs : List Nat), i ≤ rows.length ∧ m = rows.length - i ∧ s.A 0 = .mp x 0 ∧ s.A 3 = .mp N2 0 ∧ s.A 4 = i64 i ∧ s.H N2 = some (.blk [v, v1, v2]) ∧ Rowing s.H (N2 + 1) s.N (rows.take i) rs v ∧ N2 + 1 ≤ s.N ∧ Fresh s.H s.N ∧ ∀ j, j < N2 → s.H j = H2 j) rows.length ?_ ?_
  · refine ⟨0, .sl .nil 0 [], [], by omega, by omega, by simp, by simp, by simp, by simp [AHeap.set], Rowing.start _ _ _, Nat.le_refl _, hF3, fun j hj => ?_⟩
    simp only [AHeap.set]; rw [if_neg (by omega)]
  · rintro m A1 H3 N3 ⟨i, v, rs, hi, rfl, g0, g3, g4, hv, hR, hNN, hF4, old3⟩
    simp only at g0 g3 g4 hv hR hNN hF4 old3
    have hw : IntKind.i64.wrap ((i : Int) + 1) = ((i + 1 : Nat) : Int) := by rw [wrap_i64 (by omega) (by omega)]; rfl
    have keepH : ∀ j o, H j = some o → H3 j = some o := fun j o ho => by
      have := hF.lt ho
      rw [old3 j (by omega), old j this, ho]
    have hx3 := keepH x _ hx
    have hcw := hR.b.rd.cells
    by_cases hil : i < rows.length
    · have n1 : (i : Int) < rows.length := by omega
      have hne : rids ≠ [] := by intro h; rw [h] at hll; simp at hll; omega
      have hcv' := hcv
      rw [if_neg hne] at hcv'
      have hil2 : i < rids.length := by omega
      have b1 : aindex 1 cv (i64 (i : Nat)) = some (.mp cid i) := by rw [← hcv']; simp [aindex, hil2]
      have b2 := keepH cid _ (hM.hc hne)
      have b3 : (List.zipWith (fun rid row => AV.ms rid 0 (List.length row) 1) rids rows)[i]? = some (.ms rids[i] 0 rows[i].length 1) := by simp [List.getElem?_zipWith, hil, hil2]
      have b4 := keepH rids[i] _ (hM.hr i rids[i] rows[i] (by simp [hil2]) (by simp [hil]))
      have hbr := hM.hb rows[i] (List.getElem_mem hil)
      obtain ⟨row, hrow⟩ : ∃ row, rows[i] = row := ⟨_, rfl⟩
      rw [hrow] at b3 b4 hbr
      have hsl : SlAt H3 (.ms rids[i] 0 row.length 1) (row.map fun n => i64 n) rids[i] := .inl ⟨by simp, b4⟩
      have hsrc := hsl.src
      have hkp3 : keepOk H3 N3 (.sl .exact 1 []) = true := by simp [keepOk, hF4 N3 (Nat.le_refl _)]
      have hrn : row ≠ [] := by intro h; rw [h] at hbr; simp at hbr
      obtain ⟨H5, hH5⟩ : ∃ H5, H3.set N3 (.blk (row.map fun n => i64 n)) = H5 := ⟨_, rfl⟩
      have hap5 : aappend false 1 8 H3 N3 (.sl .exact 1 []) (.ms rids[i] 0 row.length 1) = some (.ms N3 0 row.length 1, H5, N3 + 1) := by
        simp only [aappend, hsrc, List.length_map]
        rw [if_neg (by omega), if_pos ⟨.inl trivial, by simp only [lim, List.length_nil]; omega, by simp only [List.length_nil]; omega⟩, ← hH5]
        simp
      have hF5 : Fresh H5 (N3 + 1) := hH5 ▸ hF4.set _
      have old5 : ∀ j, j < N3 → H5 j = H3 j := fun j hj => by rw [← hH5]; simp only [AHeap.set]; rw [if_neg (by omega)]
      have hr5 : H5 N3 = some (.blk (row.map fun n => i64 n)) := by rw [← hH5]; simp [AHeap.set]
      have hR5 : Rowing H5 (N2 + 1) (N3 + 1) (rows.take i) rs v := hR.keep hF4 (fun j _ hj => old5 j hj) (by omega)
      obtain ⟨H6, happ, hR6, hF6, old6⟩ := hR5.grow (rid := N3) (row := row) hF5 (by omega) (by simp; omega) hr5 (by omega) (fun hm => by have := (hR.lt _ hm).2.1; omega) (fun n' he => by
        obtain ⟨_, ⟨_, hz, _⟩ | ⟨_, id, _, hz, hid⟩⟩ := hR.b
        · rw [hz] at he; cases he
        · rw [hz] at he; cases he; have := hF4.lt hid; omega)
      have hlk : (rows.take i).length = i := by simp; omega
      have htk : rows.take i ++ [row] = rows.take (i + 1) := by rw [List.take_add_one, List.getElem?_eq_getElem hil, hrow]; rfl
      rw [htk, hlk] at hR6
      rw [hlk] at happ
      have hv5 : H5 N2 = some (.blk [v, v1, v2]) := by rw [old5 N2 (by omega), hv]
      have hv6 : H6 N2 = some (.blk [v, v1, v2]) := by rw [old6 N2 (by omega), hv5]
      simp [a_bobbinref08_Mem_Copyb1, nilOf, g0, g3, g4, hx3, hcc, hcl, n1, hv, hcw, b1, b2, b3, hkp3, hap5, happ, hv6, splice, hw, -AV.cells, cells_ms, -alen]
      refine ⟨rows.length - (i + 1), by omega, i + 1, by omega, rfl, rfl, ⟨rs ++ [N3], hR6.keep hF6 (fun j hj _ => by simp only [AHeap.set]; rw [if_neg (by omega)]) (Nat.le_refl _)⟩, by omega, fun j hj => ?_, fun j hj => ?_⟩
      · simp only [AHeap.set]
        rw [if_neg (by omega)]
        exact hF6 j hj
      · rw [if_neg (by omega), old6 j (by omega), old5 j (by omega), old3 j hj]
    · have n1 : ¬ (i : Int) < rows.length := by omega
      have hie : i = rows.length := by omega
      subst hie
      rw [List.take_length] at hR
      obtain ⟨cid2, hvc, hdone⟩ := hR.done hF4
      simp [a_bobbinref08_Mem_Copyb1, nilOf, g0, g3, g4, hx3, hcc, hcl, -AV.cells, cells_ms, -alen]
      obtain ⟨Hc, hHc⟩ : ∃ Hc : AHeap, Hc = fun id => if N0 ≤ id then H3 id else none := ⟨_, rfl⟩
      have up : ∀ id, N0 ≤ id → Hc id = H3 id := fun id hid => by rw [hHc]; simp [hid]
      have hle : Hc.le H3 := fun id o ho => by
        rw [hHc] at ho
        simp only at ho
        split at ho
        · exact ho
        · cases ho
      have hle2 : H.le H3 := fun id o ho => keepH id o ho
      have hdis : Dis H Hc := fun id o ho => by
        have := hF.lt ho
        rw [hHc]; simp; omega
      have hrr : ∀ r ∈ rs, N2 + 1 ≤ r ∧ r < N3 := fun r hr => by have := hR.lt r hr; omega
      have mk : ∀ f b, SlAt Hc v1 (blC fl) f → SlAt Hc v2 (inC by_) b → (N2 :: f :: b :: (if rs = [] then [] else cid2 :: rs)).Nodup → RCopyAns H rows fl by_ (.mp N2 0) H3 := fun f b h1 h2 h3 => by
        refine ⟨N2, f, b, cid2, rs, v1, v2, Hc, rfl, ⟨hM.hb, hn, by rw [up _ (by omega), hv, hvc], h1, h2, hfy, fun h => ?_, hR.len, fun j rid row a b => ?_, h3⟩, hle, hle2, hdis⟩
        · obtain ⟨d1, d2, d3, d4⟩ := hdone h
          rw [up _ (by omega), d1]
        · have := hrr rid (List.mem_of_getElem? a)
          rw [up _ (by omega), hR.hr j rid row a b]
      have hcd : rs ≠ [] → N2 + 1 ≤ cid2 ∧ cid2 < N3 ∧ cid2 ∉ rs := fun h => ⟨(hdone h).2.1, (hdone h).2.2.1, (hdone h).2.2.2⟩
      have nodup : ∀ f b, (f < N2 ∨ N3 ≤ f) → (b < N2 ∨ N3 ≤ b) → f ≠ b → N2 ≠ f → N2 ≠ b → (N2 :: f :: b :: (if rs = [] then [] else cid2 :: rs)).Nodup := fun f b hf hb hfb hf2 hb2 => by
        by_cases h0 : rs = []
        · rw [if_pos h0]
          simp only [List.nodup_cons, List.mem_cons, List.not_mem_nil, or_false, not_or, List.nodup_nil, not_false_eq_true, and_true]
          omega
        · rw [if_neg h0]
          obtain ⟨d1, d2, d3⟩ := hcd h0
          have m1 : N2 ∉ rs := fun h => by have := hrr _ h; omega
          have m2 : f ∉ rs := fun h => by have := hrr _ h; omega
          have m3 : b ∉ rs := fun h => by have := hrr _ h; omega
          simp only [List.nodup_cons, List.mem_cons, not_or]
          exact ⟨⟨hf2, hb2, by omega, m1⟩, ⟨hfb, by omega, m2⟩, ⟨by omega, m3⟩, d3, hR.nd⟩
      by_cases hfe : fl = []
      · have hbe : by_ = [] := List.eq_nil_of_length_eq_zero (by rw [hfy, hfe]; rfl)
        have e1 : blC fl = [] := by rw [hfe]; rfl
        have e2 : inC by_ = [] := by rw [hbe]; rfl
        have z1 : v1 = .sl .exact 1 [] := by
          have hz := hM.hf.src
          rw [e1] at hz
          simp only [aappend, hz, List.length_nil, if_true] at ha1
          cases ha1; rfl
        have z2 : v2 = .sl .exact 1 [] := by
          rw [e2] at hsrc2
          simp only [aappend, hsrc2, List.length_nil, if_true] at ha2
          cases ha2; rfl
        refine mk (N3 + 1) (N3 + 2) (.inr ⟨e1, z1⟩) (.inr ⟨e2, z2⟩) (nodup _ _ (by omega) (by omega) (by omega) (by omega) (by omega))
      · have hl0 : 0 < fl.length := List.length_pos_iff.2 hfe
        have e1 : blC fl ≠ [] := fun h => by have := blC_len fl; rw [h] at this; simp at this; omega
        have e2 : inC by_ ≠ [] := fun h => by have := inC_len by_; rw [h] at this; simp at this; omega
        have k1 := hN1' e1
        have k2 := hN2' e2
        have s1 : SlAt Hc v1 (blC fl) N0 := by
          refine hs1.imp (fun ⟨a, b⟩ => ⟨a, ?_⟩) (fun h => h)
          rw [up _ (Nat.le_refl _), old3 _ (by omega), old2 _ (by omega), b]
        have s2 : SlAt Hc v2 (inC by_) N1 := by
          refine hs2.imp (fun ⟨a, b⟩ => ⟨a, ?_⟩) (fun h => h)
          rw [up _ (by omega), old3 _ (by omega), b]
        exact mk N0 N1 s1 s2 (nodup _ _ (by omega) (by omega) (by omega) (by omega) (by omega))
end
end Go.Proofs.Ytmgmgeijfkcglaa
