/- Both memories side by side: whether they are the same. -/
import Derived.Test.YtmgmgeijfkcglaaB9
namespace Go.Proofs.Ytmgmgeijfkcglaa
set_option linter.unusedSimpArgs false
set_option linter.unusedVariables false
open Go Go.Fw
attribute [local simp] Value.oneCell' anil aidxs noHeap_or set_or
section
variable {m x : Nat} {rows : List (List Int)} {locks : Int} {held : List (Int × Int)} {fl : List Bool} {by_ : List Int} {G : AHeap}
theorem IsMem.le {H H' : AHeap} {m hid cid : Nat} {rids : List Nat} (hM : IsMem H m hid cid rids rows locks held) (hk : H.le H') : IsMem H' m hid cid rids rows locks held := hM.keep hk
theorem IsRef.le {H H' : AHeap} {x fid bid cid : Nat} {rids : List Nat} {fv bv : AV} (hM : IsRef H x fid bid cid rids rows fv bv fl by_) (hk : H.le H') : IsRef H' x fid bid cid rids rows fv bv fl by_ :=
  ⟨hM.hb, hM.hn, hk _ _ hM.hx, hM.hf.imp (fun ⟨a, b⟩ => ⟨a, hk _ _ b⟩) (fun h => h), hM.hy.imp (fun ⟨a, b⟩ => ⟨a, hk _ _ b⟩) (fun h => h), hM.hfl, fun h => hk _ _ (hM.hc h), hM.hl, fun i r row a b => hk _ _ (hM.hr i r row a b), hM.nd⟩
/-- A call that changes nothing of the memory's. -/
theorem p_holders {fid bid cid cid2 hid : Nat} {rids rids2 : List Nat} {fv bv : AV} {A : Nat → AV} {N : Nat} {fs : List Fr} {Q : Post} (hR : Rel locks held fl by_) (hM : IsMem G m hid cid rids rows locks held) (hX : IsRef G x fid bid cid2 rids2 rows fv bv fl by_) (hfl : fl.length ≤ 1000)
    (h0 : A 0 = .mp m 0) (h1 : A 1 = .mp x 0) (hk : ∀ A', onward Try.prog fs Q .normal ⟨A', G, N⟩) :
    run Try.prog (.seq (.ops [⟨some 8, .val (.val (.lit (.int .i64 (-1)))), none⟩]) (.block 4 (.loop a_bobbinlaw08_sameb1))) fs Q ⟨A, G, N⟩ := by
  have hx := hX.hx
  have hlf := hX.hf.len
  rw [blC_len] at hlf
  simp
  refine run_loop (fun n s => ∃ i : Nat, i ≤ fl.length + 2 ∧ n = fl.length + 2 - i ∧ s.A 0 = .mp m 0 ∧ s.A 1 = .mp x 0 ∧ s.A 8 = i64 ((i : Int) - 1) ∧ s.H = G ∧ s.N = N) (fl.length + 2) ?_ ?_
  · exact ⟨0, by omega, by omega, by simp [h0], by simp [h1], by simp, rfl, rfl⟩
  · rintro n A1 H1 N1 ⟨i, hi, rfl, g0, g1, g8, eH, eN⟩
    simp only at g0 g1 g8 eH eN
    subst eH
    subst eN
    have hw : IntKind.i64.wrap ((i : Int) - 1 + 1) = (((i + 1 : Nat) : Int) - 1) := by rw [wrap_i64 (by omega) (by omega)]; omega
    by_cases hil : i < fl.length + 2
    · have n1 : (i : Int) - 1 ≤ fl.length := by omega
      obtain ⟨e1, e2⟩ := hR.holder1 ((i : Int) - 1)
      simp [a_bobbinlaw08_sameb1, nilOf, g0, g1, g8, hx, hlf, n1, -alen]
      refine (p25 hM ((i : Int) - 1) N1).mono ?_
      rintro r H2 N2 ⟨rfl, rfl, rfl⟩
      rw [e1, e2]
      simp [g0, g1, g8]
      refine (p_rHolder hX ((i : Int) - 1) N2).mono ?_
      rintro r H3 N3 ⟨rfl, rfl, rfl⟩
      have hw2 : IntKind.i64.wrap (i : Int) = i := wrap_i64 (by omega) (by omega)
      simp [g0, g1, g8, hw2]
      exact ⟨fl.length + 2 - (i + 1), by omega, i + 1, by omega, rfl, by omega⟩
    · have n1 : ¬ (i : Int) - 1 ≤ fl.length := by omega
      simp [a_bobbinlaw08_sameb1, nilOf, g0, g1, g8, hx, hlf, n1, -alen]
      exact hk _
theorem p_same (hR : Rel locks held fl by_) (hP : Pair G m x rows locks held fl by_) (hfl : fl.length ≤ 1000) (N : Nat) : ACall Try.prog 32 [.mp m 0, .mp x 0] G N (fun r H' N' => r = bl true ∧ Pair H' m x rows locks held fl by_) := by
  obtain ⟨M, X, hid, cid, rids, fid, bid, cid2, rids2, fv, bv, hMG, hXG, hMX, hM, hX⟩ := hP
  obtain ⟨ch, eh⟩ : ∃ c, (.seq (.ops [⟨some 8, .val (.val (.lit (.int .i64 (-1)))), none⟩]) (.block 4 (.loop a_bobbinlaw08_sameb1)) : ACode) = c := ⟨_, rfl⟩
  obtain ⟨c2, e2⟩ : ∃ c, (.loop a_bobbinlaw08_sameb2 : ACode) = c := ⟨_, rfl⟩
  obtain ⟨c3, e3⟩ : ∃ c, (.loop a_bobbinlaw08_sameb3 : ACode) = c := ⟨_, rfl⟩
  refine acallF mixed c_bobbinlaw08_same (by simp) fun hF => ?_
  unfold a_bobbinlaw08_same
  rw [eh, e3]
  simp
  refine ((p26 hM N).on hMG).monoF ?_
  rintro r H1 N1 ⟨Hc, ⟨k1, k2, k3⟩, l1, l2, l3, l4⟩ hF1 _
  obtain ⟨hX1, _⟩ := l2 X hXG hMX
  have lM : ∀ id o, M id = some o → id < N := fun id o ho => hF.lt (hMG id o ho)
  have lX : ∀ id o, X id = some o → id < N := fun id o ho => hF.lt (hXG id o ho)
  have hM1 : M.le H1 := fun id o ho => l1 id o (by rw [k2 id (lM id o ho)]; exact ho)
  have hlenx : alen 1 (if rids2 = [] then .sl .nil 0 [] else .ms cid2 0 rids2.length 1) = some (rows.length : Int) := by
    rw [← hX.hl]
    split
    · rename_i h; rw [h]; rfl
    · rfl
  obtain ⟨cv, hcv⟩ : ∃ v, (if rids2 = [] then (.sl .nil 0 [] : AV) else .ms cid2 0 rids2.length 1) = v := ⟨_, rfl⟩
  rw [hcv] at hlenx
  have hxx := hX1 _ _ hX.hx
  rw [hcv] at hxx
  have hrl : r.cells = some [r] ∧ alen 1 r = some (rows.length : Int) := by
    split at k1
    · rename_i h; subst k1; rw [h]; exact ⟨rfl, rfl⟩
    · obtain ⟨oid, ids, rfl, _⟩ := k1; exact ⟨rfl, rfl⟩
  -- what is behind
  have fin : ∀ (A' : Nat → AV) (H' : AHeap) (N' : Nat), A' 0 = .mp m 0 → A' 1 = .mp x 0 → (∀ j, j < N → H' j = H1 j) → run Try.prog ch [.seq (.seq (.ops [⟨some 4, .val (.val (.lit (.bool true))), none⟩]) .ret)] (fin [.tmp 4] fun r H' N' => r = bl true ∧ Pair H' m x rows locks held fl by_) ⟨A', H', N'⟩ := fun A' H' N' g0 g1 hold => by
    have mM : M.le H' := fun id o ho => by rw [hold id (lM id o ho)]; exact hM1 id o ho
    have mX : X.le H' := fun id o ho => by rw [hold id (lX id o ho)]; exact hX1 id o ho
    rw [← eh]
    refine p_holders hR (hM.le mM) (hX.le mX) hfl g0 g1 fun A2 => ?_
    simp
    exact ⟨M, X, hid, cid, rids, fid, bid, cid2, rids2, fv, bv, mM, mX, hMX, hM, hX⟩
  simp [nilOf, hrl, hxx, hlenx, -alen, -AV.cells]
  rw [← e3]
  by_cases hr0 : rows = []
  · refine run_loop (fun n s => s.A 0 = .mp m 0 ∧ s.A 1 = .mp x 0 ∧ s.A 5 = r ∧ s.A 6 = i64 0 ∧ s.H = H1) 0 ?_ ?_
    · exact ⟨by simp, by simp, by simp, by simp, rfl⟩
    · rintro n A1 H2 N2 ⟨g0, g1, g5, g6, eH⟩
      simp only at g0 g1 g5 g6 eH
      subst eH
      have hl0 := hrl.2
      rw [hr0] at hl0
      simp [a_bobbinlaw08_sameb3, g0, g1, g5, g6, hl0, -alen]
      exact fin _ _ _ (by simp [g0]) (by simp [g1]) fun _ _ => rfl
  · rw [if_neg hr0] at k1
    obtain ⟨oid, ids, rfl, hRw, o1, o2, o3⟩ := k1
    have hne2 : rids2 ≠ [] := fun h => hr0 (List.eq_nil_of_length_eq_zero (by rw [← hX.hl, h]; rfl))
    rw [if_neg hne2, hX.hl] at hcv
    have hoid := l1 _ _ hRw.ho
    have hni : ∀ (i j id1 id2 : Nat), ids[i]? = some id1 → ids[j]? = some id2 → i ≠ j → id1 ≠ id2 := fun i j a b h1 h2 hij he => by
      subst he
      have a1 := (List.getElem?_eq_some_iff.1 h1)
      have a2 := (List.getElem?_eq_some_iff.1 h2)
      exact hij ((List.getElem_inj hRw.nd).1 (a1.2.trans a2.2.symm))
    have hrn := hX.hn
    refine run_loop (fun n s => ∃ i : Nat, i ≤ rows.length ∧ n = rows.length - i ∧ s.A 0 = .mp m 0 ∧ s.A 1 = .mp x 0 ∧ s.A 5 = .ms oid 0 rows.length 1 ∧ s.A 6 = i64 i ∧ (∀ j, j < N → s.H j = H1 j) ∧ s.H oid = H1 oid ∧ ∀ j id, i ≤ j → ids[j]? = some id → s.H id = H1 id) rows.length ?_ ?_
    · exact ⟨0, by omega, by omega, by simp, by simp, by simp, by simp, fun _ _ => rfl, rfl, fun _ _ _ _ => rfl⟩
    · rintro n A1 H2 N2 ⟨i, hi, rfl, g0, g1, g5, g6, hold, ho, hrs⟩
      simp only at g0 g1 g5 g6 hold ho hrs
      have hw : IntKind.i64.wrap ((i : Int) + 1) = ((i + 1 : Nat) : Int) := by rw [wrap_i64 (by omega) (by omega)]; rfl
      have hx2 : H2 x = some (.blk [cv, fv, bv]) := by rw [hold x (lX _ _ hX.hx), hxx]
      have ho2 := ho.trans hoid
      unfold a_bobbinlaw08_sameb3
      rw [e2]
      by_cases hil : i < rows.length
      · have n1 : (i : Int) < rows.length := by omega
        have hii : i < ids.length := by rw [hRw.hl]; exact hil
        have hi2 : i < rids2.length := by rw [hX.hl]; exact hil
        obtain ⟨row, hrow⟩ : ∃ row, rows[i] = row := ⟨_, rfl⟩
        have hbr := hX.hb rows[i] (List.getElem_mem hil)
        rw [hrow] at hbr
        have a1 : aindex 1 (.ms oid 0 rows.length 1) (i64 (i : Nat)) = some (.mp oid i) := by simp [aindex, hil]
        have a2 : (List.zipWith (fun id row => AV.ms id 0 (List.length row) 1) ids rows)[i]? = some (.ms ids[i] 0 row.length 1) := by simp [List.getElem?_zipWith, hil, hii, hrow]
        have a3 : H2 ids[i] = some (.blk (row.map fun n => i64 n)) := by
          rw [hrs i ids[i] (Nat.le_refl _) (by simp [hii])]
          exact l1 _ _ (hRw.hr i ids[i] row (by simp [hii]) (by simp [hil, hrow]))
        have b1 : aindex 1 cv (i64 (i : Nat)) = some (.mp cid2 i) := by rw [← hcv]; simp [aindex, hil]
        have b2 : H2 cid2 = some (.blk (List.zipWith (fun id row => AV.ms id 0 (List.length row) 1) rids2 rows)) := by
          rw [hold cid2 (lX _ _ (hX.hc hne2))]; exact hX1 _ _ (hX.hc hne2)
        have b3 : (List.zipWith (fun id row => AV.ms id 0 (List.length row) 1) rids2 rows)[i]? = some (.ms rids2[i] 0 row.length 1) := by simp [List.getElem?_zipWith, hil, hi2, hrow]
        have hxr := hX.hr i rids2[i] row (by simp [hi2]) (by simp [hil, hrow])
        have lxr := lX _ _ hxr
        have b4 : H2 rids2[i] = some (.blk (row.map fun n => i64 n)) := by rw [hold _ lxr]; exact hX1 _ _ hxr
        have q1 : ∀ id, alen 1 (.ms id 0 row.length 1) = some (row.length : Int) := fun _ => rfl
        obtain ⟨id, hid⟩ : ∃ id, ids[i] = id := ⟨_, rfl⟩
        obtain ⟨id2, hid2⟩ : ∃ id, rids2[i] = id := ⟨_, rfl⟩
        have hidm : ids[i]? = some id := by simp [hii, hid]
        have hidN := (o3 id (by rw [← hid]; exact List.getElem_mem hii)).1
        have hoi : oid ≠ id := fun h => hRw.hn (by rw [h, ← hid]; exact List.getElem_mem hii)
        rw [hid] at a2 a3
        rw [hid2] at b3 b4 lxr
        simp [nilOf, g0, g1, g5, g6, hrl.2, hx2, n1, a1, ho2, a2, b1, b2, b3, q1, -alen]
        rw [← e2]
        refine run_loop (fun n s => ∃ k : Nat, k ≤ row.length ∧ n = row.length - k ∧ s.A 0 = .mp m 0 ∧ s.A 1 = .mp x 0 ∧ s.A 5 = .ms oid 0 rows.length 1 ∧ s.A 6 = i64 i ∧ s.A 7 = i64 k ∧ (∀ j, j < N → s.H j = H1 j) ∧ s.H oid = H1 oid ∧ s.H id = some (.blk (List.replicate k (i64 (-7)) ++ (row.map fun n => i64 n).drop k)) ∧ ∀ j id', i < j → ids[j]? = some id' → s.H id' = H1 id') row.length ?_ ?_
        · exact ⟨0, by omega, by omega, by simp [g0], by simp [g1], by simp [g5], by simp [g6], by simp, hold, ho, by simpa using a3, fun j id' hj => hrs j id' (by omega)⟩
        · rintro n A3 H3 N3 ⟨k, hk, rfl, f0, f1, f5, f6, f7, old3, ho3, hb3, hrs3⟩
          simp only at f0 f1 f5 f6 f7 old3 ho3 hb3 hrs3
          have hwk : IntKind.i64.wrap ((k : Int) + 1) = ((k + 1 : Nat) : Int) := by rw [wrap_i64 (by omega) (by omega)]; rfl
          have hx3 : H3 x = some (.blk [cv, fv, bv]) := by rw [old3 x (lX _ _ hX.hx), hxx]
          have ho4 := ho3.trans hoid
          have b23 : H3 cid2 = some (.blk (List.zipWith (fun id row => AV.ms id 0 (List.length row) 1) rids2 rows)) := by
            rw [old3 cid2 (lX _ _ (hX.hc hne2)), ← hold cid2 (lX _ _ (hX.hc hne2)), b2]
          have b43 : H3 id2 = some (.blk (row.map fun n => i64 n)) := by rw [old3 _ lxr, ← hold _ lxr, b4]
          by_cases hkl : k < row.length
          · have m1 : (k : Int) < row.length := by omega
            obtain ⟨F, hFe⟩ : ∃ F, List.replicate k (i64 (-7)) ++ (row.map fun n => i64 n).drop k = F := ⟨_, rfl⟩
            have hFk : F[k]? = some (i64 row[k]) := by
              rw [← hFe, List.getElem?_append_right (by simp)]
              simp [hkl]
            have hFl : k + 1 ≤ F.length := by rw [← hFe]; simp; omega
            have hFs : F.set k (i64 (-7)) = List.replicate (k + 1) (i64 (-7)) ++ (row.map fun n => i64 n).drop (k + 1) := by
              rw [← hFe, List.set_append_right _ _ (by simp), List.length_replicate, Nat.sub_self, List.drop_eq_getElem_cons (by simpa using hkl), List.set_cons_zero, List.replicate_succ', List.append_assoc]
              rfl
            have hxk : (row.map fun n => i64 n)[k]? = some (i64 row[k]) := by simp [hkl]
            rw [hFe] at hb3
            have u1 : ∀ id, aindex 1 (.ms id 0 row.length 1) (i64 (k : Nat)) = some (.mp id k) := fun id => by simp [aindex, hkl]
            simp [a_bobbinlaw08_sameb2, nilOf, f0, f1, f5, f6, f7, hx3, a1, ho4, a2, b1, b23, b3, q1, m1, u1, hb3, b43, hFk, hxk, hFl, hwk, -alen, -List.getElem?_map]
            refine ⟨row.length - (k + 1), by omega, k + 1, by omega, rfl, rfl, fun j hj => ?_, ?_, hFs, fun j id' hj hj' => ?_⟩
            · rw [if_neg (by omega), old3 j hj]
            · rw [if_neg hoi]; exact hoid.symm
            · rw [if_neg (hni j i id' id hj' hidm (by omega)), hrs3 j id' hj hj']
          · have m1 : ¬ (k : Int) < row.length := by omega
            simp [a_bobbinlaw08_sameb2, nilOf, f0, f1, f5, f6, f7, a1, ho4, a2, q1, m1, hw, -alen]
            exact ⟨rows.length - (i + 1), by omega, i + 1, by omega, rfl, rfl, old3, hoid.symm, fun j id' hj hj' => hrs3 j id' (by omega) hj'⟩
      · have n1 : ¬ (i : Int) < rows.length := by omega
        simp [g0, g1, g5, g6, hrl.2, n1, -alen]
        exact fin _ _ _ (by simp [g0]) (by simp [g1]) hold
end
end Go.Proofs.Ytmgmgeijfkcglaa
