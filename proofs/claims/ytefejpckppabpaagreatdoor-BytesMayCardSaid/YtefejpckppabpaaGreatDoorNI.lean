/- code, the reference: May. -/
import Derived.Test.YtefejpckppabpaaGreatDoorNH
namespace Go.Proofs.YtefejpckppabpaaGreatDoor
set_option linter.unusedSimpArgs false
set_option linter.unusedVariables false
open Go Go.Fw

section
variable {p : PrgV} {f : FunV} {A : Nat → AV} {H : AHeap} {N o : Nat} {fs : List Fr} {Q : Post} {v : AV} {l : List ByteArray}

theorem Gath.push1 (h : Gath l H N v) (s : ByteArray) (hl : l.length < 1000000000) : ∃ v' H' N', aappend false 1 16 H N v (.sl .exact 1 [[str s]]) = some (v', H', N') ∧ Gath (l ++ [s]) H' N' v' := by
  obtain ⟨v', H', N', h1, h2⟩ := h.more (k := .exact) (r := [s]) (by simp; omega)
  exact ⟨v', H', N', h1, h2⟩

theorem refMay_mems (hs : p.mems.length ≤ 1000000000) (h1 : A 1 = .ip p.cells 0) (h3 : A 3 = v) (h4 : A 4 = i64 0) (hG : Gath [] H N v)
    (hk : p.mems.all memB = true → ∀ A' H' N' v', A' 1 = .ip p.cells 0 → A' 3 = v' → Gath (p.mems.map (·.name)) H' N' v' → onward Tryz.prog fs Q (.exit 0) ⟨A', H', N'⟩)
    (hr : prgB p = false → ∀ A' H' N', A' 2 = bl false → onward Tryz.prog fs Q .ret ⟨A', H', N'⟩) : run Tryz.prog (.loop a_bobbinref07_Mayb5) fs Q ⟨A, H, N⟩ := by
  refine run_loop (fun m s => ∃ j v, j ≤ p.mems.length ∧ m = p.mems.length - j ∧ s.A 1 = .ip p.cells 0 ∧ s.A 3 = v ∧ s.A 4 = i64 j ∧ Gath (mNames p j) s.H s.N v ∧ ∀ i (h : i < p.mems.length), i < j → memB p.mems[i] = true) p.mems.length ?_ ?_
  · exact ⟨0, v, by omega, by omega, h1, h3, h4, by simpa [mNames] using hG, fun i h hi => by omega⟩
  · rintro m A1 H1 N1 ⟨j, v, hj, rfl, e1, e3, e4, hG, hgood⟩
    simp only at e1 e3 e4 hG
    by_cases hjl : j = p.mems.length
    · subst hjl
      have hall : p.mems.all memB = true := List.all_eq_true.2 fun x hx => by
        obtain ⟨i, hi, rfl⟩ := List.getElem_of_mem hx
        exact hgood i hi hi
      rw [mNames_all] at hG
      simp [a_bobbinref07_Mayb5, e1, e4]
      refine hk hall _ _ _ v ?_ ?_ hG <;> simp [e1, e3]
    · have hlt : j < p.mems.length := by omega
      obtain ⟨x, hx⟩ : ∃ x, p.mems[j] = x := ⟨_, rfl⟩
      have hix : aindex 3 (.sl p.mmk 3 (memCells p.mems)) (i64 j) = some (.ip x.cells 0) := aindex_sl (by omega) (by simp [memCells, hlt, hx])
      obtain ⟨v', H', N', happ, hG'⟩ := hG.push1 x.name (by rw [mNames_len (by omega)]; omega)
      have hnx := mNames_next hlt
      rw [hx] at hnx
      rw [← hnx] at hG'
      have bad : memB x = false → prgB p = false := fun h => prgB_mem hlt (by rw [hx]; exact h)
      by_cases c1 : x.size < 1
      · simp [a_bobbinref07_Mayb5, e1, e3, e4, hlt, hix, MemV.cells, c1]
        exact hr (bad (by simp [memB]; omega)) _ _ _ (by simp)
      · by_cases c2 : 1024 < x.size
        · simp [a_bobbinref07_Mayb5, e1, e3, e4, hlt, hix, MemV.cells, c1, c2]
          exact hr (bad (by simp [memB]; omega)) _ _ _ (by simp)
        · simp [a_bobbinref07_Mayb5, e1, e3, e4, hlt, hix, MemV.cells, c1, c2, happ]
          refine ⟨p.mems.length - (j + 1), by omega, j + 1, by omega, rfl, by rw [wrap_i64 (by omega) (by omega)]; rfl, hG', fun i h hij => ?_⟩
          by_cases hij2 : i = j
          · subst hij2; rw [hx]; simp [memB]; omega
          · exact hgood i h (by omega)

/-- A name that was there already. -/
theorem refMay_dup (hrd : RdSl H 1 (strCells l) v) (hl : l.length ≤ 1000) {j : Nat} (hj : j < l.length) (h3 : A 3 = v) (h9 : A 9 = i64 j) (h10 : A 10 = i64 0)
    (hk : l[j] ∉ l.take j → ∀ A', (∀ t, t ≤ 9 → A' t = A t) → onward Tryz.prog fs Q (.exit 8) ⟨A', H, N⟩)
    (hr : l[j] ∈ l.take j → ∀ A', A' 2 = bl false → onward Tryz.prog fs Q .ret ⟨A', H, N⟩) : run Tryz.prog (.loop a_bobbinref07_Mayb1) fs Q ⟨A, H, N⟩ := by
  obtain ⟨q, hq, qq⟩ := hrd.at (strCells_sz l) (strCells_at hj)
  have lq := qq.one
  refine run_loop (fun m s => ∃ i, i ≤ j ∧ m = j - i ∧ (∀ t, t ≤ 9 → s.A t = A t) ∧ s.A 10 = i64 i ∧ s.H = H ∧ s.N = N ∧ l[j] ∉ l.take i) j ?_ ?_
  · exact ⟨0, by omega, by omega, fun _ _ => rfl, h10, rfl, rfl, by simp⟩
  · rintro m A1 H1 N1 ⟨i, hi, rfl, hA, e10, rfl, rfl, hn⟩
    simp only at hA e10
    have e3 := hA 3 (by omega)
    have e9 := hA 9 (by omega)
    rw [h3] at e3
    rw [h9] at e9
    by_cases hil : i = j
    · subst hil
      simp [a_bobbinref07_Mayb1, e9, e10]
      refine hk hn _ fun t ht => ?_
      refine Eq.trans ?_ (hA t ht)
      (try simp only [upA]); repeat rw [if_neg (by omega)]
    · have hlt : i < j := by omega
      have hlt2 : i < l.length := by omega
      obtain ⟨p1, hp, pp⟩ := hrd.at (strCells_sz l) (strCells_at hlt2)
      have lp := pp.one
      obtain ⟨w, hw⟩ : ∃ w, l[j] = w := ⟨_, rfl⟩
      obtain ⟨u, hu⟩ : ∃ u, l[i] = u := ⟨_, rfl⟩
      simp only [hw, hu] at lp lq hn hr hk
      by_cases hv : u = w
      · subst hv
        simp [a_bobbinref07_Mayb1, e3, e9, e10, hlt, hp, hq, lp, lq, -aload]
        refine hr ?_ _ (by simp)
        rw [← hu]
        rw [List.mem_take_iff_getElem]
        exact ⟨i, by omega, rfl⟩
      · simp [a_bobbinref07_Mayb1, e3, e9, e10, hlt, hp, hq, lp, lq, hv, -aload]
        refine ⟨j - (i + 1), by omega, i + 1, by omega, rfl, fun t ht => ?_, by rw [wrap_i64 (by omega) (by omega)]; rfl, ?_⟩
        · refine Eq.trans ?_ (hA t ht)
          (try simp only [upA]); repeat rw [if_neg (by omega)]
        · rw [hw, take_next hlt2, List.mem_append, hu]
          simp [hn, Ne.symm hv]

def okTo (l : List ByteArray) (j : Nat) : Prop := ∀ i (h : i < l.length), i < j → nameB l[i] = true ∧ l[i] ∉ l.take i

theorem okTo_all {l : List ByteArray} (h : okTo l l.length) : l.all nameB = true ∧ l.Nodup := by
  refine ⟨List.all_eq_true.2 fun x hx => ?_, ?_⟩
  · obtain ⟨i, hi, rfl⟩ := List.getElem_of_mem hx
    exact (h i hi hi).1
  · rw [List.nodup_iff_pairwise_ne, List.pairwise_iff_getElem]
    intro i j hi hj hij he
    refine (h j hj hj).2 ?_
    rw [List.mem_take_iff_getElem]
    exact ⟨i, by omega, he⟩

theorem refMay_names (hrd : RdSl H 1 (strCells l) v) (hl : l.length ≤ 256) (h3 : A 3 = v) (h9 : A 9 = i64 0)
    (hk : namedB l = true → ∀ A', onward Tryz.prog fs Q (.exit 6) ⟨A', H, N⟩)
    (hr : namedB l = false → ∀ A', A' 2 = bl false → onward Tryz.prog fs Q .ret ⟨A', H, N⟩) : run Tryz.prog (.loop a_bobbinref07_Mayb2) fs Q ⟨A, H, N⟩ := by
  have hla := hrd.len
  rw [strCells_len] at hla
  refine run_loop (fun m s => ∃ j, j ≤ l.length ∧ m = l.length - j ∧ s.A 3 = v ∧ s.A 9 = i64 j ∧ s.H = H ∧ s.N = N ∧ okTo l j) l.length ?_ ?_
  · exact ⟨0, by omega, by omega, h3, h9, rfl, rfl, fun i h hi => by omega⟩
  · rintro m A1 H1 N1 ⟨j, hj, rfl, e3, e9, rfl, rfl, hok⟩
    simp only at e3 e9 hk hr hrd
    by_cases hjl : j = l.length
    · subst hjl
      obtain ⟨k1, k2⟩ := okTo_all hok
      simp [a_bobbinref07_Mayb2, e3, e9, hla, -alen]
      exact hk (by simp only [namedB, k1, Bool.and_true, k2, decide_true]; exact decide_eq_true hl) _
    · have hlt : j < l.length := by omega
      obtain ⟨q, hq, qq⟩ := hrd.at (strCells_sz l) (strCells_at hlt)
      have lq := qq.one
      simp [a_bobbinref07_Mayb2, e3, e9, hla, hlt, hq, lq, -alen, -aload]
      refine (p_refName l[j]).acall ?_
      by_cases hnm : nameB l[j] = true
      · simp [hnm]
        refine refMay_dup (l := l) (v := v) hrd (by omega) hlt ?_ ?_ ?_ (fun hn A2 hA2 => ?_) (fun hn A2 h2 => ?_)
        · simp [e3]
        · simp [e9]
        · simp
        · have g3 := hA2 3 (by omega)
          have g9 := hA2 9 (by omega)
          simp [e3, e9] at g3 g9
          simp [g3, g9]
          refine ⟨l.length - (j + 1), by omega, j + 1, by omega, rfl, by rw [wrap_i64 (by omega) (by omega)]; rfl, fun i h hij => ?_⟩
          by_cases hij2 : i = j
          · subst hij2; exact ⟨hnm, hn⟩
          · exact hok i h (by omega)
        · simp
          refine hr ?_ _ h2
          have : ¬ l.Nodup := fun hd => by
            rw [List.mem_take_iff_getElem] at hn
            obtain ⟨i, hi, he⟩ := hn
            rw [List.nodup_iff_pairwise_ne, List.pairwise_iff_getElem] at hd
            exact hd i j (by omega) hlt (by omega) he
          simp [namedB, this]
      · simp [hnm]
        refine hr ?_ _ (by simp)
        have : l.all nameB = false := List.all_eq_false.2 ⟨_, List.getElem_mem hlt, hnm⟩
        unfold namedB
        rw [this]
        simp
end

theorem p_refMay {p : PrgV} (hp : p.Fit) : PCall Tryz.prog 27 [.agg p.cells] (bl (prgB p)) := by
  have ht := hp.tot
  refine PCall.of fun N => acallF mixed c_bobbinref07_May (by simp) fun hF => ?_
  simp [a_bobbinref07_May]
  obtain ⟨B, hB⟩ : ∃ B, prgB p = B := ⟨_, rfl⟩
  rw [hB]
  have bad : prgB p = false → B = false := fun h => by rw [← hB, h]
  refine refMay_mems (p := p) (v := .sl .nil 0 []) (by omega) ?_ ?_ ?_ ⟨.nil, hF⟩ (fun hm A1 H1 N1 v1 e1 e3 hG1 => ?_) (fun hb A1 H1 N1 h2 => ?_)
  · simp
  · simp
  · simp
  · obtain ⟨v2, H2, N2, happ, hG2⟩ := hG1.more (k := p.lk) (r := p.locks) (by simp; omega)
    have happ' : aappend false 1 16 H1 N1 v1 (.sl p.lk 1 (lockCells p.locks)) = some (v2, H2, N2) := happ
    simp [e1, e3, happ']
    refine refMay_funs (p := p) (v := v2) hp (by simp; omega) ?_ ?_ ?_ hG2 (fun hf A3 H3 N3 v3 g1 g3 hG3 => ?_) (fun hb A3 H3 N3 h2 => ?_)
    · simp [e1]
    · simp
    · simp
    · have hnames : p.mems.map (·.name) ++ p.locks ++ p.funs.map (·.name) = p.names := rfl
      rw [hnames] at hG3
      have hrd := hG3.b.rd
      have hlen := hrd.len
      rw [strCells_len] at hlen
      by_cases h256 : (256 : Int) < p.names.length
      · have : B = false := bad (prgB_named (by simp [namedB]; intro h; omega))
        simp [g3, hlen, -alen, h256, this]
        exact .free rfl
      · simp [g1, g3, hlen, -alen, h256]
        refine (p_refThreads (by omega) _ _).monoF ?_
        rintro r H4 N4 ⟨hN4, hold, hBt⟩ hF4 _
        have htl := hBt.rd.len
        rw [intCells_len] at htl
        by_cases h16 : (16 : Int) < (thrL p.funs).length
        · have : B = false := bad (by simp [prgB]; intro _ h; omega)
          simp [htl, -alen, h16, this]
          exact .free rfl
        · simp [htl, -alen, h16]
          have hb4 := built_after hG3.b hG3.f hold
          refine refMay_names (l := p.names) (v := v3) hb4.rd (by omega) ?_ ?_ (fun hn A5 => ?_) (fun hn A5 h2 => ?_)
          · simp [g3]
          · simp
          · have : B = true := by
              rw [← hB]
              unfold prgB
              rw [hn, hm, hf, decide_eq_true (by omega)]
              rfl
            simp [this]
            exact .free rfl
          · have : B = false := bad (prgB_named hn)
            simp [this, h2]
            exact .free rfl
    · have : B = false := bad hb
      simp [this, h2]
      exact .free rfl
  · have : B = false := bad hb
    simp [this, h2]
    exact .free rfl
end Go.Proofs.YtefejpckppabpaaGreatDoor
