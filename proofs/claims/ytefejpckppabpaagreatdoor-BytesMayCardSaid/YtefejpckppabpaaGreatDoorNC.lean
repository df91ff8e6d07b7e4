/- Whether some element of a slice meets a test: the same text for each type. -/
import Derived.Test.YtefejpckppabpaaGreatDoorNB
namespace Go.Proofs.YtefejpckppabpaaGreatDoor
set_option linter.unusedSimpArgs false
set_option linter.unusedVariables false
open Go Go.Fw

def hd1 (x : List AV) : AV := x.headD .junk

theorem p_IndexFunc_string {H : AHeap} {a : AV} {es : List (List AV)} (ha : RdSl H 1 es a) (hs : ∀ x ∈ es, x.length = 1) {g : FuncId} {capt : List AV} {ts : List Bool} (htl : ts.length = es.length) (hl : es.length ≤ maxLen)
    (hg : ∀ (i : Nat) (x : List AV) (b : Bool), es[i]? = some x → ts[i]? = some b → PCall Tryz.prog g ((hd1 x) :: capt) (bl b)) (N : Nat) :
    ACall Tryz.prog 89 [a, .fn (.func g) [] capt] H N (fun r H' N' => (∃ n : Int, r = i64 n ∧ (0 ≤ n ↔ ts.any id = true)) ∧ H' = H ∧ N' = N) := by
  have hm : maxLen = 9223372036854775807 := rfl
  refine acall mixed c_slices_IndexFunc_string_string (by simp) ?_
  have hla := ha.len
  simp [a_slices_IndexFunc_string_string, hla, -alen]
  refine run_loop (fun m x => ∃ j, j ≤ es.length ∧ m = es.length - j ∧ x.A 0 = a ∧ x.A 1 = .fn (.func g) [] capt ∧ x.A 7 = i64 es.length ∧ x.A 8 = i64 j ∧ x.H = H ∧ x.N = N ∧ (ts.take j).any id = false) es.length ?_ ?_
  · exact ⟨0, by omega, by omega, by simp, by simp, by simp, by simp, by simp, by simp, by simp⟩
  · rintro m A H1 N1 ⟨j, hj, rfl, h0, h1, h7, h8, rfl, rfl, hn⟩
    simp only at h0 h1 h7 h8
    by_cases hjl : j = es.length
    · subst hjl
      rw [← htl, List.take_length] at hn
      simp [a_slices_IndexFunc_string_stringb1, h7, h8, hn]
      simpa using hn
    · have hlt : j < es.length := by omega
      obtain ⟨p, hp, pp⟩ := ha.at hs (List.getElem?_eq_getElem hlt)
      have hlt2 : j < ts.length := by omega
      have hc := hg j es[j] ts[j] (List.getElem?_eq_getElem hlt) (List.getElem?_eq_getElem hlt2)
      have lp : aload H1 false 1 p = some (hd1 es[j]) := by
        obtain ⟨v, hv⟩ : ∃ v, es[j] = [v] := by
          have := hs _ (List.getElem_mem hlt)
          match he : es[j], this with
          | [v], _ => exact ⟨v, rfl⟩
        rw [hv] at pp ⊢
        exact pp.one
      simp [a_slices_IndexFunc_string_stringb1, h0, h1, h7, h8, hlt, hp, lp, -aload]
      refine hc.acall ?_
      by_cases hv : ts[j] = true
      · simp [hv]
        exact hv ▸ List.getElem_mem hlt2
      · simp [hv, h0, h1, h7, h8]
        refine ⟨es.length - (j + 1), by omega, j + 1, by omega, rfl, by rw [wrap_i64 (by omega) (by omega)]; rfl, ?_⟩
        have : (ts.take (j + 1)).any id = false := by rw [take_next hlt2, List.any_append, hn]; simp [hv]
        simpa using this

theorem p_ContainsFunc_string {H : AHeap} {a : AV} {es : List (List AV)} (ha : RdSl H 1 es a) (hs : ∀ x ∈ es, x.length = 1) {g : FuncId} {capt : List AV} {ts : List Bool} (htl : ts.length = es.length) (hl : es.length ≤ maxLen)
    (hg : ∀ (i : Nat) (x : List AV) (b : Bool), es[i]? = some x → ts[i]? = some b → PCall Tryz.prog g ((hd1 x) :: capt) (bl b)) (N : Nat) :
    ACall Tryz.prog 72 [a, .fn (.func g) [] capt] H N (fun r H' N' => r = bl (ts.any id) ∧ H' = H ∧ N' = N) := by
  refine acall mixed c_slices_ContainsFunc_string_string (by simp) ?_
  simp [a_slices_ContainsFunc_string_string]
  refine (p_IndexFunc_string ha hs htl hl hg N).mono ?_
  rintro r H1 N1 ⟨⟨n, rfl, hn⟩, rfl, rfl⟩
  have : decide (0 ≤ n) = ts.any id := by
    cases h : ts.any id <;> simp [hn, h]
  simp [this]

theorem p_IndexFunc_Ins {H : AHeap} {a : AV} {es : List (List AV)} (ha : RdSl H 6 es a) (hs : ∀ x ∈ es, x.length = 6) {g : FuncId} {capt : List AV} {ts : List Bool} (htl : ts.length = es.length) (hl : es.length ≤ maxLen)
    (hg : ∀ (i : Nat) (x : List AV) (b : Bool), es[i]? = some x → ts[i]? = some b → PCall Tryz.prog g ((.agg x) :: capt) (bl b)) (N : Nat) :
    ACall Tryz.prog 92 [a, .fn (.func g) [] capt] H N (fun r H' N' => (∃ n : Int, r = i64 n ∧ (0 ≤ n ↔ ts.any id = true)) ∧ H' = H ∧ N' = N) := by
  have hm : maxLen = 9223372036854775807 := rfl
  refine acall mixed c_slices_IndexFunc_api_Ins_api_Ins (by simp) ?_
  have hla := ha.len
  simp [a_slices_IndexFunc_api_Ins_api_Ins, hla, -alen]
  refine run_loop (fun m x => ∃ j, j ≤ es.length ∧ m = es.length - j ∧ x.A 0 = a ∧ x.A 1 = .fn (.func g) [] capt ∧ x.A 7 = i64 es.length ∧ x.A 8 = i64 j ∧ x.H = H ∧ x.N = N ∧ (ts.take j).any id = false) es.length ?_ ?_
  · exact ⟨0, by omega, by omega, by simp, by simp, by simp, by simp, by simp, by simp, by simp⟩
  · rintro m A H1 N1 ⟨j, hj, rfl, h0, h1, h7, h8, rfl, rfl, hn⟩
    simp only at h0 h1 h7 h8
    by_cases hjl : j = es.length
    · subst hjl
      rw [← htl, List.take_length] at hn
      simp [a_slices_IndexFunc_api_Ins_api_Insb1, h7, h8, hn]
      simpa using hn
    · have hlt : j < es.length := by omega
      obtain ⟨p, hp, pp⟩ := ha.at hs (List.getElem?_eq_getElem hlt)
      have hlt2 : j < ts.length := by omega
      have hc := hg j es[j] ts[j] (List.getElem?_eq_getElem hlt) (List.getElem?_eq_getElem hlt2)
      have lp : aload H1 true 6 p = some (.agg es[j]) := by
        have := pp.load
        rw [hs _ (List.getElem_mem hlt)] at this
        exact this
      simp [a_slices_IndexFunc_api_Ins_api_Insb1, h0, h1, h7, h8, hlt, hp, lp, -aload]
      refine hc.acall ?_
      by_cases hv : ts[j] = true
      · simp [hv]
        exact hv ▸ List.getElem_mem hlt2
      · simp [hv, h0, h1, h7, h8]
        refine ⟨es.length - (j + 1), by omega, j + 1, by omega, rfl, by rw [wrap_i64 (by omega) (by omega)]; rfl, ?_⟩
        have : (ts.take (j + 1)).any id = false := by rw [take_next hlt2, List.any_append, hn]; simp [hv]
        simpa using this

theorem p_ContainsFunc_Ins {H : AHeap} {a : AV} {es : List (List AV)} (ha : RdSl H 6 es a) (hs : ∀ x ∈ es, x.length = 6) {g : FuncId} {capt : List AV} {ts : List Bool} (htl : ts.length = es.length) (hl : es.length ≤ maxLen)
    (hg : ∀ (i : Nat) (x : List AV) (b : Bool), es[i]? = some x → ts[i]? = some b → PCall Tryz.prog g ((.agg x) :: capt) (bl b)) (N : Nat) :
    ACall Tryz.prog 77 [a, .fn (.func g) [] capt] H N (fun r H' N' => r = bl (ts.any id) ∧ H' = H ∧ N' = N) := by
  refine acall mixed c_slices_ContainsFunc_api_Ins_api_Ins (by simp) ?_
  simp [a_slices_ContainsFunc_api_Ins_api_Ins]
  refine (p_IndexFunc_Ins ha hs htl hl hg N).mono ?_
  rintro r H1 N1 ⟨⟨n, rfl, hn⟩, rfl, rfl⟩
  have : decide (0 ≤ n) = ts.any id := by
    cases h : ts.any id <;> simp [hn, h]
  simp [this]

theorem p_IndexFunc_Mem {H : AHeap} {a : AV} {es : List (List AV)} (ha : RdSl H 3 es a) (hs : ∀ x ∈ es, x.length = 3) {g : FuncId} {capt : List AV} {ts : List Bool} (htl : ts.length = es.length) (hl : es.length ≤ maxLen)
    (hg : ∀ (i : Nat) (x : List AV) (b : Bool), es[i]? = some x → ts[i]? = some b → PCall Tryz.prog g ((.agg x) :: capt) (bl b)) (N : Nat) :
    ACall Tryz.prog 75 [a, .fn (.func g) [] capt] H N (fun r H' N' => (∃ n : Int, r = i64 n ∧ (0 ≤ n ↔ ts.any id = true)) ∧ H' = H ∧ N' = N) := by
  have hm : maxLen = 9223372036854775807 := rfl
  refine acall mixed c_slices_IndexFunc_api_Mem_api_Mem (by simp) ?_
  have hla := ha.len
  simp [a_slices_IndexFunc_api_Mem_api_Mem, hla, -alen]
  refine run_loop (fun m x => ∃ j, j ≤ es.length ∧ m = es.length - j ∧ x.A 0 = a ∧ x.A 1 = .fn (.func g) [] capt ∧ x.A 7 = i64 es.length ∧ x.A 8 = i64 j ∧ x.H = H ∧ x.N = N ∧ (ts.take j).any id = false) es.length ?_ ?_
  · exact ⟨0, by omega, by omega, by simp, by simp, by simp, by simp, by simp, by simp, by simp⟩
  · rintro m A H1 N1 ⟨j, hj, rfl, h0, h1, h7, h8, rfl, rfl, hn⟩
    simp only at h0 h1 h7 h8
    by_cases hjl : j = es.length
    · subst hjl
      rw [← htl, List.take_length] at hn
      simp [a_slices_IndexFunc_api_Mem_api_Memb1, h7, h8, hn]
      simpa using hn
    · have hlt : j < es.length := by omega
      obtain ⟨p, hp, pp⟩ := ha.at hs (List.getElem?_eq_getElem hlt)
      have hlt2 : j < ts.length := by omega
      have hc := hg j es[j] ts[j] (List.getElem?_eq_getElem hlt) (List.getElem?_eq_getElem hlt2)
      have lp : aload H1 true 3 p = some (.agg es[j]) := by
        have := pp.load
        rw [hs _ (List.getElem_mem hlt)] at this
        exact this
      simp [a_slices_IndexFunc_api_Mem_api_Memb1, h0, h1, h7, h8, hlt, hp, lp, -aload]
      refine hc.acall ?_
      by_cases hv : ts[j] = true
      · simp [hv]
        exact hv ▸ List.getElem_mem hlt2
      · simp [hv, h0, h1, h7, h8]
        refine ⟨es.length - (j + 1), by omega, j + 1, by omega, rfl, by rw [wrap_i64 (by omega) (by omega)]; rfl, ?_⟩
        have : (ts.take (j + 1)).any id = false := by rw [take_next hlt2, List.any_append, hn]; simp [hv]
        simpa using this

theorem p_ContainsFunc_Mem {H : AHeap} {a : AV} {es : List (List AV)} (ha : RdSl H 3 es a) (hs : ∀ x ∈ es, x.length = 3) {g : FuncId} {capt : List AV} {ts : List Bool} (htl : ts.length = es.length) (hl : es.length ≤ maxLen)
    (hg : ∀ (i : Nat) (x : List AV) (b : Bool), es[i]? = some x → ts[i]? = some b → PCall Tryz.prog g ((.agg x) :: capt) (bl b)) (N : Nat) :
    ACall Tryz.prog 53 [a, .fn (.func g) [] capt] H N (fun r H' N' => r = bl (ts.any id) ∧ H' = H ∧ N' = N) := by
  refine acall mixed c_slices_ContainsFunc_api_Mem_api_Mem (by simp) ?_
  simp [a_slices_ContainsFunc_api_Mem_api_Mem]
  refine (p_IndexFunc_Mem ha hs htl hl hg N).mono ?_
  rintro r H1 N1 ⟨⟨n, rfl, hn⟩, rfl, rfl⟩
  have : decide (0 ≤ n) = ts.any id := by
    cases h : ts.any id <;> simp [hn, h]
  simp [this]

theorem p_IndexFunc_Fun {H : AHeap} {a : AV} {es : List (List AV)} (ha : RdSl H 5 es a) (hs : ∀ x ∈ es, x.length = 5) {g : FuncId} {capt : List AV} {ts : List Bool} (htl : ts.length = es.length) (hl : es.length ≤ maxLen)
    (hg : ∀ (i : Nat) (x : List AV) (b : Bool), es[i]? = some x → ts[i]? = some b → PCall Tryz.prog g ((.agg x) :: capt) (bl b)) (N : Nat) :
    ACall Tryz.prog 76 [a, .fn (.func g) [] capt] H N (fun r H' N' => (∃ n : Int, r = i64 n ∧ (0 ≤ n ↔ ts.any id = true)) ∧ H' = H ∧ N' = N) := by
  have hm : maxLen = 9223372036854775807 := rfl
  refine acall mixed c_slices_IndexFunc_api_Fun_api_Fun (by simp) ?_
  have hla := ha.len
  simp [a_slices_IndexFunc_api_Fun_api_Fun, hla, -alen]
  refine run_loop (fun m x => ∃ j, j ≤ es.length ∧ m = es.length - j ∧ x.A 0 = a ∧ x.A 1 = .fn (.func g) [] capt ∧ x.A 7 = i64 es.length ∧ x.A 8 = i64 j ∧ x.H = H ∧ x.N = N ∧ (ts.take j).any id = false) es.length ?_ ?_
  · exact ⟨0, by omega, by omega, by simp, by simp, by simp, by simp, by simp, by simp, by simp⟩
  · rintro m A H1 N1 ⟨j, hj, rfl, h0, h1, h7, h8, rfl, rfl, hn⟩
    simp only at h0 h1 h7 h8
    by_cases hjl : j = es.length
    · subst hjl
      rw [← htl, List.take_length] at hn
      simp [a_slices_IndexFunc_api_Fun_api_Funb1, h7, h8, hn]
      simpa using hn
    · have hlt : j < es.length := by omega
      obtain ⟨p, hp, pp⟩ := ha.at hs (List.getElem?_eq_getElem hlt)
      have hlt2 : j < ts.length := by omega
      have hc := hg j es[j] ts[j] (List.getElem?_eq_getElem hlt) (List.getElem?_eq_getElem hlt2)
      have lp : aload H1 true 5 p = some (.agg es[j]) := by
        have := pp.load
        rw [hs _ (List.getElem_mem hlt)] at this
        exact this
      simp [a_slices_IndexFunc_api_Fun_api_Funb1, h0, h1, h7, h8, hlt, hp, lp, -aload]
      refine hc.acall ?_
      by_cases hv : ts[j] = true
      · simp [hv]
        exact hv ▸ List.getElem_mem hlt2
      · simp [hv, h0, h1, h7, h8]
        refine ⟨es.length - (j + 1), by omega, j + 1, by omega, rfl, by rw [wrap_i64 (by omega) (by omega)]; rfl, ?_⟩
        have : (ts.take (j + 1)).any id = false := by rw [take_next hlt2, List.any_append, hn]; simp [hv]
        simpa using this

theorem p_ContainsFunc_Fun {H : AHeap} {a : AV} {es : List (List AV)} (ha : RdSl H 5 es a) (hs : ∀ x ∈ es, x.length = 5) {g : FuncId} {capt : List AV} {ts : List Bool} (htl : ts.length = es.length) (hl : es.length ≤ maxLen)
    (hg : ∀ (i : Nat) (x : List AV) (b : Bool), es[i]? = some x → ts[i]? = some b → PCall Tryz.prog g ((.agg x) :: capt) (bl b)) (N : Nat) :
    ACall Tryz.prog 55 [a, .fn (.func g) [] capt] H N (fun r H' N' => r = bl (ts.any id) ∧ H' = H ∧ N' = N) := by
  refine acall mixed c_slices_ContainsFunc_api_Fun_api_Fun (by simp) ?_
  simp [a_slices_ContainsFunc_api_Fun_api_Fun]
  refine (p_IndexFunc_Fun ha hs htl hl hg N).mono ?_
  rintro r H1 N1 ⟨⟨n, rfl, hn⟩, rfl, rfl⟩
  have : decide (0 ≤ n) = ts.any id := by
    cases h : ts.any id <;> simp [hn, h]
  simp [this]

end Go.Proofs.YtefejpckppabpaaGreatDoor
