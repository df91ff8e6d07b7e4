/- tree: which texts are names, by the reference. -/
import Derived.Test.YtefejpckppabpaaGreatDoorNA
namespace Go.Proofs.YtefejpckppabpaaGreatDoor
set_option linter.unusedSimpArgs false
set_option linter.unusedVariables false
open Go Go.Fw

def letN (n : Int) : Prop := (97 ≤ n ∧ n ≤ 122) ∨ (65 ≤ n ∧ n ≤ 90) ∨ n = 95
instance (n : Int) : Decidable (letN n) := by unfold letN; infer_instance

theorem cut_iff : ∀ n : Nat, n < 256 → (cutL.contains (UInt8.ofNat n) = decide (letN n ∨ (48 ≤ (n : Int) ∧ (n : Int) ≤ 57))) := by decide +kernel

theorem cut_b (b : UInt8) : cutL.contains b = decide (letN b.toNat ∨ (48 ≤ (b.toNat : Int) ∧ (b.toNat : Int) ≤ 57)) := by
  have := cut_iff b.toNat b.toNat_lt
  rw [← this, UInt8.ofNat_toNat]

theorem p_Reserved (s : ByteArray) : PCall Tryz.prog 85 [str s] (bl (decide (s ∈ resWords))) := by
  refine PCall.of fun N => acall mixed c_bobbinref02_Reserved (by simp) ?_
  have hch : AV.sl .exact 1 (strCells resWords) = .sl .exact 1 [[str ⟨#[103, 108, 111, 98, 97, 108]⟩], [str ⟨#[97, 114, 114, 97, 121]⟩], [str ⟨#[108, 111, 99, 107]⟩], [str ⟨#[102, 117, 110, 99]⟩], [str ⟨#[116, 104, 114, 101, 97, 100]⟩], [str ⟨#[118, 97, 114]⟩], [str ⟨#[105, 102]⟩], [str ⟨#[101, 108, 115, 101]⟩], [str ⟨#[119, 104, 105, 108, 101]⟩], [str ⟨#[119, 105, 116, 104]⟩], [str ⟨#[112, 114, 105, 110, 116]⟩], [str ⟨#[99, 97, 108, 108]⟩], [str ⟨#[114, 101, 116, 117, 114, 110]⟩], [str ⟨#[116, 114, 117, 101]⟩], [str ⟨#[102, 97, 108, 115, 101]⟩]] := rfl
  have hlen : (strCells resWords).length = 15 := rfl
  simp [a_bobbinref02_Reserved]
  simp only [← hch]
  refine run_loop (fun m x => ∃ j, j ≤ 15 ∧ m = 15 - j ∧ x.A 0 = str s ∧ x.A 5 = .sl .exact 1 (strCells resWords) ∧ x.A 6 = i64 15 ∧ x.A 7 = i64 j ∧ x.H = noHeap ∧ s ∉ resWords.take j) 15 ?_ ?_
  · exact ⟨0, by omega, by omega, by simp, by simp, by simp, by simp, by simp, by simp⟩
  · rintro m A H1 N1 ⟨j, hj, rfl, h0, h5, h6, h7, rfl, hn⟩
    simp only at h0 h5 h6 h7
    by_cases hjl : j = 15
    · subst hjl
      have : s ∉ resWords := hn
      simp [a_bobbinref02_Reservedb1, h6, h7, this]
      exact .free rfl
    · have hlt : j < resWords.length := by show j < 15; omega
      have hq : aindex 1 (.sl .exact 1 (strCells resWords)) (i64 j) = some (.ip [str resWords[j]] 0) := aindex_sl (by omega) (by simpa using strCells_at hlt)
      obtain ⟨w, hw⟩ : ∃ w, resWords[j] = w := ⟨_, rfl⟩
      rw [hw] at hq
      by_cases hv : s = w
      · subst hv
        have : decide (s ∈ resWords) = true := decide_eq_true (by rw [← hw]; exact List.getElem_mem hlt)
        rw [this]
        clear this hw hn
        simp [a_bobbinref02_Reservedb1, h0, h5, h6, h7, show (j : Int) < 15 by omega, hq]
        exact .free rfl
      · simp [a_bobbinref02_Reservedb1, h0, h5, h6, h7, show (j : Int) < 15 by omega, hq, hv]
        refine ⟨15 - (j + 1), by omega, j + 1, by omega, rfl, by rw [wrap_i64 (by omega) (by omega)]; rfl, ?_⟩
        rw [take_next hlt, List.mem_append, hw]
        simp [hn, hv]

/-- The first bytes of a text may be in a name. -/
def CutTo (s : ByteArray) (j : Nat) : Prop := (s.data.toList.take j).all (fun b => cutL.contains b) = true

theorem p_refName (s : ByteArray) : PCall Tryz.prog 64 [str s] (bl (nameB s)) := by
  refine PCall.of fun N => acall mixed c_bobbinref02_Name (by simp) ?_
  by_cases hs0 : s = ⟨#[]⟩
  · subst hs0
    simp [a_bobbinref02_Name, empty_name]
    exact .free rfl
  obtain ⟨b0, r, hb, hb0, hsz⟩ := first_byte hs0
  by_cases h1 : (32 : Int) < s.size
  · have : nameB s = false := by simp [nameB]; intro _ h2; omega
    simp [a_bobbinref02_Name, hs0, h1, this]
    exact .free rfl
  simp [a_bobbinref02_Name, hs0, h1]
  refine (p_Reserved s).acall ?_
  by_cases hres : s ∈ resWords
  · have : nameB s = false := by simp [nameB, hres]
    simp [hres, this]
    exact .free rfl
  have hd : dig0 s = digitB b0 := by simp [dig0, hb]
  have hn : nameB s = (!digitB b0 && s.data.toList.all fun b => cutL.contains b) := by simp [nameB, hres, hsz, hd]; omega
  simp [hres]
  have hlen : s.data.toList.length = s.size := by rw [Array.length_toList]; rfl
  obtain ⟨B, hB⟩ : ∃ B, B = nameB s := ⟨_, rfl⟩
  rw [← hB]
  refine run_loop (fun m x => ∃ j, j ≤ s.size ∧ m = s.size - j ∧ x.A 0 = str s ∧ x.A 3 = i64 j ∧ x.H = noHeap ∧ (j ≠ 0 → digitB b0 = false) ∧ CutTo s j) s.size ?_ ?_
  · exact ⟨0, by omega, by omega, by simp, by simp, by simp, by simp, by simp [CutTo]⟩
  · rintro m A H1 N1 ⟨j, hj, rfl, h0, h3, rfl, hdg, hall⟩
    simp only at h0 h3
    by_cases hjl : j = s.size
    · subst hjl
      have : B = true := by
        rw [hB, hn, hdg hsz]
        unfold CutTo at hall
        rw [← hlen, List.take_length] at hall
        rw [hall]
        rfl
      simp [a_bobbinref02_Nameb1, h0, h3, this]
      exact .free rfl
    · have hlt : j < s.size := by omega
      have hltl : j < s.data.toList.length := by omega
      obtain ⟨b, hbj⟩ : ∃ b, s.data.toList[j] = b := ⟨_, rfl⟩
      have hbi : s[j]? = some b := by
        have : s[j]? = s.data.toList[j]? := by
          rw [Array.getElem?_toList]
          rfl
        rw [this, List.getElem?_eq_getElem hltl, hbj]
      have hbg : s[j]'hlt = b := by
        have h5 : s[j]? = some s[j] := by simp [hlt]
        rw [hbi] at h5
        exact (Option.some.inj h5).symm
      obtain ⟨n, hnb⟩ : ∃ n : Int, (b.toNat : Int) = n := ⟨_, rfl⟩
      have hn0 : 0 ≤ n := by omega
      have hn256 : n < 256 := by have := b.toNat_lt; omega
      have hcut := cut_b b
      rw [hnb] at hcut
      have hb0j : j = 0 → b = b0 := fun h => by subst h; simp [hb] at hbj; exact hbj.symm
      have go : (letN n ∨ (j ≠ 0 ∧ (48 ≤ n ∧ n ≤ 57))) → ∃ m, m < s.size - j ∧ ∃ j_1, j_1 ≤ s.size ∧ m = s.size - j_1 ∧ IntKind.i64.wrap ((j : Int) + 1) = j_1 ∧ (j_1 ≠ 0 → digitB b0 = false) ∧ CutTo s j_1 := fun hc => by
        refine ⟨s.size - (j + 1), by omega, j + 1, by omega, rfl, by rw [wrap_i64 (by omega) (by omega)]; rfl, fun _ => ?_, ?_⟩
        · by_cases hj0 : j = 0
          · have hl : letN n := hc.resolve_right (fun h => h.1 hj0)
            rw [← hb0j hj0]
            unfold letN at hl
            simp [digitB]
            omega
          · exact hdg hj0
        · unfold CutTo at hall ⊢
          rw [take_next hltl, List.all_append, hall, hbj]
          simp only [List.all_cons, List.all_nil, Bool.and_true, Bool.true_and, hcut]
          rcases hc with hc | hc
          · simp [hc]
          · simp [hc.2]
      have bad : (¬ (letN n ∨ (48 ≤ n ∧ n ≤ 57)) ∨ (j = 0 ∧ (48 ≤ n ∧ n ≤ 57))) → View noHeap (bl false) (bl B) := fun hc => by
        have hf : B = false := by
          rw [hB, hn]
          rcases hc with hc | ⟨hc, hc2⟩
          · have : (s.data.toList.all fun b => cutL.contains b) = false := by
              rw [List.all_eq_false]
              exact ⟨b, by rw [← hbj]; exact List.getElem_mem hltl, by rw [hcut]; simp [hc]⟩
            rw [this, Bool.and_false]
          · have : digitB b0 = true := by rw [← hb0j hc]; simp [digitB]; omega
            rw [this]; rfl
        rw [hf]
        exact .free rfl
      have hcls : (97 ≤ n ∧ n ≤ 122) ∨ (65 ≤ n ∧ n ≤ 90) ∨ (n = 95) ∨ (48 ≤ n ∧ n ≤ 57) ∨ n < 48 ∨ (58 ≤ n ∧ n ≤ 64) ∨ (91 ≤ n ∧ n ≤ 94 ∨ n = 96) ∨ 122 < n := by omega
      have lets : ∀ {n : Int}, letN n ↔ ((97 ≤ n ∧ n ≤ 122) ∨ (65 ≤ n ∧ n ≤ 90) ∨ n = 95) := Iff.rfl
      simp only [lets] at go bad
      rcases hcls with hc | hc | hc | hc | hc | hc | hc | hc
      · simp [a_bobbinref02_Nameb1, h0, h3, hlt, hbg, hnb, show (97 : Int) ≤ n by omega, show n ≤ (122 : Int) by omega, show (65 : Int) ≤ n by omega, show ¬ n ≤ (90 : Int) by omega, show ¬ n = (95 : Int) by omega, show ¬ n < (48 : Int) by omega, show (57 : Int) < n by omega]
        exact go (.inl (by omega))
      · simp [a_bobbinref02_Nameb1, h0, h3, hlt, hbg, hnb, show ¬ (97 : Int) ≤ n by omega, show n ≤ (122 : Int) by omega, show (65 : Int) ≤ n by omega, show n ≤ (90 : Int) by omega, show ¬ n = (95 : Int) by omega, show ¬ n < (48 : Int) by omega, show (57 : Int) < n by omega]
        exact go (.inl (by omega))
      · simp [a_bobbinref02_Nameb1, h0, h3, hlt, hbg, hnb, show ¬ (97 : Int) ≤ n by omega, show n ≤ (122 : Int) by omega, show (65 : Int) ≤ n by omega, show ¬ n ≤ (90 : Int) by omega, show n = (95 : Int) by omega, show ¬ n < (48 : Int) by omega, show (57 : Int) < n by omega]
        exact go (.inl (by omega))
      · by_cases hj0 : j = 0
        · subst hj0
          clear go
          simp [a_bobbinref02_Nameb1, h0, h3, hlt, hbg, hnb, show ¬ (97 : Int) ≤ n by omega, show n ≤ (122 : Int) by omega, show ¬ (65 : Int) ≤ n by omega, show n ≤ (90 : Int) by omega, show ¬ n = (95 : Int) by omega, show ¬ n < (48 : Int) by omega, show ¬ (57 : Int) < n by omega]
          exact bad (.inr ⟨rfl, by omega⟩)
        · simp [a_bobbinref02_Nameb1, h0, h3, hlt, hbg, hnb, show ¬ (j : Int) = 0 by omega, hj0, show ¬ (97 : Int) ≤ n by omega, show n ≤ (122 : Int) by omega, show ¬ (65 : Int) ≤ n by omega, show n ≤ (90 : Int) by omega, show ¬ n = (95 : Int) by omega, show ¬ n < (48 : Int) by omega, show ¬ (57 : Int) < n by omega]
          exact go (.inr ⟨hj0, by omega⟩)
      · by_cases hj0 : j = 0
        · subst hj0
          clear go
          simp [a_bobbinref02_Nameb1, h0, h3, hlt, hbg, hnb, show ¬ (97 : Int) ≤ n by omega, show n ≤ (122 : Int) by omega, show ¬ (65 : Int) ≤ n by omega, show n ≤ (90 : Int) by omega, show ¬ n = (95 : Int) by omega, show n < (48 : Int) by omega, show ¬ (57 : Int) < n by omega]
          exact bad (.inl (by omega))
        · simp [a_bobbinref02_Nameb1, h0, h3, hlt, hbg, hnb, show ¬ (j : Int) = 0 by omega, hj0, show ¬ (97 : Int) ≤ n by omega, show n ≤ (122 : Int) by omega, show ¬ (65 : Int) ≤ n by omega, show n ≤ (90 : Int) by omega, show ¬ n = (95 : Int) by omega, show n < (48 : Int) by omega, show ¬ (57 : Int) < n by omega]
          exact bad (.inl (by omega))
      · by_cases hj0 : j = 0
        · subst hj0
          clear go
          simp [a_bobbinref02_Nameb1, h0, h3, hlt, hbg, hnb, show ¬ (97 : Int) ≤ n by omega, show n ≤ (122 : Int) by omega, show ¬ (65 : Int) ≤ n by omega, show n ≤ (90 : Int) by omega, show ¬ n = (95 : Int) by omega, show ¬ n < (48 : Int) by omega, show (57 : Int) < n by omega]
          exact bad (.inl (by omega))
        · simp [a_bobbinref02_Nameb1, h0, h3, hlt, hbg, hnb, show ¬ (j : Int) = 0 by omega, hj0, show ¬ (97 : Int) ≤ n by omega, show n ≤ (122 : Int) by omega, show ¬ (65 : Int) ≤ n by omega, show n ≤ (90 : Int) by omega, show ¬ n = (95 : Int) by omega, show ¬ n < (48 : Int) by omega, show (57 : Int) < n by omega]
          exact bad (.inl (by omega))
      · by_cases hj0 : j = 0
        · subst hj0
          clear go
          simp [a_bobbinref02_Nameb1, h0, h3, hlt, hbg, hnb, show ¬ (97 : Int) ≤ n by omega, show n ≤ (122 : Int) by omega, show (65 : Int) ≤ n by omega, show ¬ n ≤ (90 : Int) by omega, show ¬ n = (95 : Int) by omega, show ¬ n < (48 : Int) by omega, show (57 : Int) < n by omega]
          exact bad (.inl (by omega))
        · simp [a_bobbinref02_Nameb1, h0, h3, hlt, hbg, hnb, show ¬ (j : Int) = 0 by omega, hj0, show ¬ (97 : Int) ≤ n by omega, show n ≤ (122 : Int) by omega, show (65 : Int) ≤ n by omega, show ¬ n ≤ (90 : Int) by omega, show ¬ n = (95 : Int) by omega, show ¬ n < (48 : Int) by omega, show (57 : Int) < n by omega]
          exact bad (.inl (by omega))
      · by_cases hj0 : j = 0
        · subst hj0
          clear go
          simp [a_bobbinref02_Nameb1, h0, h3, hlt, hbg, hnb, show (97 : Int) ≤ n by omega, show ¬ n ≤ (122 : Int) by omega, show (65 : Int) ≤ n by omega, show ¬ n ≤ (90 : Int) by omega, show ¬ n = (95 : Int) by omega, show ¬ n < (48 : Int) by omega, show (57 : Int) < n by omega]
          exact bad (.inl (by omega))
        · simp [a_bobbinref02_Nameb1, h0, h3, hlt, hbg, hnb, show ¬ (j : Int) = 0 by omega, hj0, show (97 : Int) ≤ n by omega, show ¬ n ≤ (122 : Int) by omega, show (65 : Int) ≤ n by omega, show ¬ n ≤ (90 : Int) by omega, show ¬ n = (95 : Int) by omega, show ¬ n < (48 : Int) by omega, show (57 : Int) < n by omega]
          exact bad (.inl (by omega))
end Go.Proofs.YtefejpckppabpaaGreatDoor
