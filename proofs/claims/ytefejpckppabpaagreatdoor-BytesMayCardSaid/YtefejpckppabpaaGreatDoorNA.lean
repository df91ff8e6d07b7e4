/- tree: which texts are names. -/
import Derived.Test.YtefejpckppabpaaGreatDoorK0
import Derived.Test.YtefejpckppabpaaGreatDoorK3
import Derived.Test.YtefejpckppabpaaGreatDoorLN
import Derived.Test.YtefejpckppabpaaGreatDoorM5
namespace Go.Proofs.YtefejpckppabpaaGreatDoor
set_option linter.unusedSimpArgs false
set_option linter.unusedVariables false
open Go Go.Fw

instance decMem (s : ByteArray) (l : List ByteArray) : Decidable (s ∈ l) := decidable_of_iff (l.any (fun x => decide (x = s)) = true) (by simp)

def strCells (l : List ByteArray) : List (List AV) := l.map fun s => [str s]
theorem strCells_len (l : List ByteArray) : (strCells l).length = l.length := by simp [strCells]
theorem strCells_sz (l : List ByteArray) : ∀ x ∈ strCells l, x.length = 1 := fun x hx => by
  obtain ⟨v, _, rfl⟩ := List.mem_map.1 hx; rfl
theorem strCells_at {l : List ByteArray} {i : Nat} (h : i < l.length) : (strCells l)[i]? = some [str l[i]] := by simp [strCells, h]
theorem strCells_app (l r : List ByteArray) : strCells (l ++ r) = strCells l ++ strCells r := by simp [strCells]
theorem strCells_flat (l : List ByteArray) : (strCells l).flatten = l.map str := by
  induction l with
  | nil => rfl
  | cons a l ih => simp only [strCells, List.map_cons, List.flatten_cons] at ih ⊢; rw [ih]; rfl

theorem p_Index_string {H : AHeap} {a : AV} {l : List ByteArray} (ha : RdSl H 1 (strCells l) a) (s : ByteArray) (hl : l.length ≤ maxLen) (N : Nat) :
    ACall Tryz.prog 112 [a, str s] H N (fun r H' N' => (∃ n : Int, r = i64 n ∧ (0 ≤ n ↔ s ∈ l)) ∧ H' = H ∧ N' = N) := by
  have hm : maxLen = 9223372036854775807 := rfl
  refine acall mixed c_slices_Index_string_string (by simp) ?_
  have hla := ha.len
  rw [strCells_len] at hla
  simp [a_slices_Index_string_string, hla, -alen]
  refine run_loop (fun m x => ∃ j, j ≤ l.length ∧ m = l.length - j ∧ x.A 0 = a ∧ x.A 1 = str s ∧ x.A 7 = i64 l.length ∧ x.A 8 = i64 j ∧ x.H = H ∧ x.N = N ∧ s ∉ l.take j) l.length ?_ ?_
  · exact ⟨0, by omega, by omega, by simp, by simp, by simp, by simp, by simp, by simp, by simp⟩
  · rintro m A H1 N1 ⟨j, hj, rfl, h0, h1, h7, h8, rfl, rfl, hn⟩
    simp only at h0 h1 h7 h8
    by_cases hjl : j = l.length
    · subst hjl
      rw [List.take_length] at hn
      simp [a_slices_Index_string_stringb1, h7, h8, hn]
    · have hlt : j < l.length := by omega
      obtain ⟨p, hp, pp⟩ := ha.at (strCells_sz l) (strCells_at hlt)
      have lp := pp.one
      by_cases hv : s = l[j]
      · simp [a_slices_Index_string_stringb1, h0, h1, h7, h8, hlt, hp, lp, hv, -aload]
      · simp [a_slices_Index_string_stringb1, h0, h1, h7, h8, hlt, hp, lp, hv, -aload]
        refine ⟨l.length - (j + 1), by omega, j + 1, by omega, rfl, by rw [wrap_i64 (by omega) (by omega)]; rfl, ?_⟩
        rw [take_next hlt, List.mem_append]
        simp [hn, hv]

theorem p_Contains_string {H : AHeap} {a : AV} {l : List ByteArray} (ha : RdSl H 1 (strCells l) a) (s : ByteArray) (hl : l.length ≤ maxLen) (N : Nat) :
    ACall Tryz.prog 90 [a, str s] H N (fun r H' N' => r = bl (decide (s ∈ l)) ∧ H' = H ∧ N' = N) := by
  refine acall mixed c_slices_Contains_string_string (by simp) ?_
  simp [a_slices_Contains_string_string]
  refine (p_Index_string ha s hl N).mono ?_
  rintro r H1 N1 ⟨⟨n, rfl, hn⟩, rfl, rfl⟩
  simp [hn]

def cutL : List UInt8 := [97, 98, 99, 100, 101, 102, 103, 104, 105, 106, 107, 108, 109, 110, 111, 112, 113, 114, 115, 116, 117, 118, 119, 120, 121, 122, 65, 66, 67, 68, 69, 70, 71, 72, 73, 74, 75, 76, 77, 78, 79, 80, 81, 82, 83, 84, 85, 86, 87, 88, 89, 90, 95, 48, 49, 50, 51, 52, 53, 54, 55, 56, 57]

theorem p_Trim (s : ByteArray) (hs : s.size ≤ 9223372036854775807) : PCall Tryz.prog 91 [str s, str ⟨cutL.toArray⟩] (str ⟨(Lib.trimS s.data.toList cutL).toArray⟩) :=
  trim_pcall (by kernel_rfl) (fun w => by
    have h := Go.Proofs.Any.strings_Trim_laid lays160 (by kernel_rfl) s ⟨cutL.toArray⟩ w hs (by decide) (Go.Proofs.ascii_of_all (by decide))
    exact h)

def digitB (b : UInt8) : Bool := decide (48 ≤ b.toNat ∧ b.toNat ≤ 57)
def dig0 (s : ByteArray) : Bool := match s.data.toList with
  | b :: _ => digitB b
  | [] => false

/-- Whether a text is a name. -/
def nameB (s : ByteArray) : Bool := decide (s.size ≠ 0 ∧ s.size ≤ 32 ∧ s ∉ resWords) && (!dig0 s && s.data.toList.all fun b => cutL.contains b)

theorem trim_nil (l c : List UInt8) : (Lib.trimS l c = []) ↔ l.all (fun b => c.contains b) = true := by
  have dw : ∀ (l : List UInt8), (l.dropWhile (c.contains ·) = []) ↔ l.all (fun b => c.contains b) = true := fun l => by
    induction l with
    | nil => simp
    | cons a l ih =>
      rw [List.dropWhile_cons]
      by_cases h : c.contains a = true
      · rw [if_pos h, ih, List.all_cons, h, Bool.true_and]
      · rw [if_neg h, List.all_cons]
        simp [h]
        intro h2
        exact absurd (by simpa using h2) (by simpa using h)
  unfold Lib.trimS Lib.trimLeftS Lib.trimRightS
  rw [dw, List.all_reverse]
  constructor
  · intro h
    have h2 : ∀ x ∈ l, c.contains x = true := fun x hx => by
      have hx' : x ∈ l.reverse := by simpa using hx
      rw [← List.takeWhile_append_dropWhile (p := (c.contains ·)) (l := l.reverse), List.mem_append] at hx'
      rcases hx' with h3 | h3
      · exact List.all_eq_true.1 (List.all_takeWhile (p := (c.contains ·)) (l := l.reverse)) x h3
      · exact List.all_eq_true.1 h x h3
    exact List.all_eq_true.2 h2
  · intro h
    rw [List.all_eq_true] at h ⊢
    exact fun x hx => h x (by simpa using (List.dropWhile_sublist (c.contains ·)).subset hx)

theorem gptr_res : gptr 1 = .ip resCells 0 := rfl
theorem res_sl (H : AHeap) : asliceA H 1 15 (.ip resCells 0) none none = some (.sl .any 1 (strCells resWords)) := rfl

theorem first_byte {s : ByteArray} (h : s ≠ ⟨#[]⟩) : ∃ b r, s.data.toList = b :: r ∧ s[0]? = some b ∧ s.size ≠ 0 := by
  obtain ⟨⟨l⟩⟩ := s
  cases l with
  | nil => exact absurd rfl h
  | cons b r => exact ⟨b, r, rfl, rfl, by simp [ByteArray.size]⟩

theorem empty_name : nameB ⟨#[]⟩ = false := by decide

theorem p_Name (s : ByteArray) (hs : s.size ≤ 9223372036854775807) : PCall Tryz.prog 74 [str s] (bl (nameB s)) := by
  refine PCall.of fun N => acall mixed c_tree_Name (by simp) ?_
  by_cases h0 : s = ⟨#[]⟩
  · subst h0
    simp [a_tree_Name, empty_name]
    exact .free rfl
  · obtain ⟨b, r, hb, hb0, hsz⟩ := first_byte h0
    by_cases h1 : (32 : Int) < s.size
    · have : nameB s = false := by simp [nameB]; intro _ h2; omega
      simp [a_tree_Name, h0, h1, this]
      exact .free rfl
    · simp [a_tree_Name, h0, h1, gptr_res, res_sl]
      refine (p_Contains_string (.sl _) s (by decide) N).mono ?_
      rintro q H1 N1 ⟨rfl, rfl, rfl⟩
      by_cases hres : s ∈ resWords
      · have : nameB s = false := by simp [nameB, hres]
        simp [hres, this]
        exact .free rfl
      · have hd : dig0 s = digitB b := by simp [dig0, hb]
        have hn : nameB s = (!digitB b && s.data.toList.all fun b => cutL.contains b) := by simp [nameB, hres, hsz, hd]; omega
        obtain ⟨T, hT⟩ : ∃ T : ByteArray, T = ⟨(Lib.trimS s.data.toList cutL).toArray⟩ := ⟨_, rfl⟩
        have hTrim := p_Trim s hs
        rw [← hT] at hTrim
        have hTn : digitB b = false → decide (T = ⟨#[]⟩) = nameB s := fun hdg => by
          rw [hn, hdg, hT]
          have := trim_nil s.data.toList cutL
          by_cases h : Lib.trimS s.data.toList cutL = []
          · rw [this.1 h, h]; decide
          · have h2 : (s.data.toList.all fun b => cutL.contains b) = false := by
              cases h3 : (s.data.toList.all fun b => cutL.contains b) with
              | false => rfl
              | true => exact absurd (this.2 h3) h
            rw [h2]
            simp [h]
        simp [hres, hb0]
        by_cases h2 : (48 : Int) ≤ b.toNat
        · by_cases h3 : (b.toNat : Int) ≤ 57
          · have hdig : digitB b = true := by simp [digitB]; omega
            have hnf : nameB s = false := by rw [hn, hdig]; rfl
            simp [h2, h3, hb0, hnf]
            exact .free rfl
          · have hdig : digitB b = false := by simp [digitB]; omega
            have hTd := hTn hdig
            simp [h2, h3, hb0]
            refine hTrim.acall ?_
            simp [hTd]
            exact .free rfl
        · have hdig : digitB b = false := by simp [digitB]; omega
          have hTd := hTn hdig
          simp [h2, hb0]
          refine hTrim.acall ?_
          simp [hTd]
          exact .free rfl
end Go.Proofs.YtefejpckppabpaaGreatDoor
