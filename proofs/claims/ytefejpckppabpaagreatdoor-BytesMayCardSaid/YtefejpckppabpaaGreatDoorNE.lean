/- code: whether all names are names, no two alike. -/
import Derived.Test.YtefejpckppabpaaGreatDoorND
import Derived.Test.YtefejpckppabpaaGreatDoorCB
namespace Go.Proofs.YtefejpckppabpaaGreatDoor
set_option linter.unusedSimpArgs false
set_option linter.unusedVariables false
open Go Go.Fw

def PrgV.names (p : PrgV) : List ByteArray := p.mems.map (·.name) ++ p.locks ++ p.funs.map (·.name)

theorem built_after {H H' : AHeap} {lo sz N : Nat} {z : AV} {es : List (List AV)} {v : AV} (h : Built H lo sz z es v) (hF : Fresh H N) (hk : ∀ j, j < N → H' j = H j) : Built H' lo sz z es v := by
  obtain ⟨b1, b2⟩ := h
  refine ⟨b1, b2.imp id ?_⟩
  rintro ⟨hne, id, hid, rfl, hH⟩
  exact ⟨hne, id, hid, rfl, by rw [hk id (hF.lt hH), hH]⟩

/-- Texts that were gathered. -/
structure Gath (l : List ByteArray) (H : AHeap) (N : Nat) (v : AV) : Prop where
  b : Built H 0 1 (.sl .nil 0 []) (strCells l) v
  f : Fresh H N

/-- One more text, behind a box that is made. -/
theorem Gath.push {l : List ByteArray} {H : AHeap} {N : Nat} {v : AV} (h : Gath l H N v) (o : AObj) (s : ByteArray) (hl : l.length ≤ 1000000000) :
    ∃ v' H' N', aappend false 1 16 (H.set N o) (N + 1) v (.sl .exact 1 [[str s]]) = some (v', H', N') ∧ Gath (l ++ [s]) H' N' v' ∧ H' N = some o := by
  have hb := built_after h.b h.f (H' := H.set N o) (fun j hj => by simp only [AHeap.set]; rw [if_neg (by omega)])
  obtain ⟨H', h1, h2, h3, h4, h5⟩ := push_raw (bytes := 16) (k := .exact) (x := [str s]) hb (h.f.set o) (Nat.zero_le _) rfl (by rw [strCells_len]; unfold lim; omega) (by rw [strCells_len]; omega)
  refine ⟨_, H', _, h1, ⟨?_, h4⟩, ?_⟩
  · rw [strCells_app]
    exact h5
  · rw [h3 N (by omega) fun n he => ?_]
    · simp [AHeap.set]
    · obtain ⟨_, ⟨_, hz, _⟩ | ⟨_, id, _, hz, hid⟩⟩ := h.b
      · rw [he] at hz; cases hz
      · rw [he] at hz
        cases hz
        have := h.f.lt hid
        omega

theorem Gath.more {l r : List ByteArray} {H : AHeap} {N : Nat} {v : AV} {k : SK} (h : Gath l H N v) (hl : l.length + r.length ≤ 1000000000) :
    ∃ v' H' N', aappend false 1 16 H N v (.sl k 1 (strCells r)) = some (v', H', N') ∧ Gath (l ++ r) H' N' v' := by
  obtain ⟨v', H', N', h1, h2, _, _, h5⟩ := h.b.append (bytes := 16) (ns := strCells r) (y := .sl k 1 (strCells r)) h.f (Nat.zero_le _) (by simp [asrc]) (strCells_sz r) (by rw [strCells_len, strCells_len]; unfold lim; omega) (by rw [strCells_len, strCells_len]; omega)
  refine ⟨v', H', N', h1, ?_, h5⟩
  rw [strCells_app]
  exact h2

def mNames (p : PrgV) (j : Nat) : List ByteArray := (p.mems.take j).map (·.name)
def fNames (p : PrgV) (j : Nat) : List ByteArray := (p.funs.take j).map (·.name)
theorem mNames_next {p : PrgV} {j : Nat} (h : j < p.mems.length) : mNames p (j + 1) = mNames p j ++ [p.mems[j].name] := by
  unfold mNames; rw [take_next h, List.map_append]; rfl
theorem fNames_next {p : PrgV} {j : Nat} (h : j < p.funs.length) : fNames p (j + 1) = fNames p j ++ [p.funs[j].name] := by
  unfold fNames; rw [take_next h, List.map_append]; rfl
theorem mNames_all (p : PrgV) : mNames p p.mems.length = p.mems.map (·.name) := by unfold mNames; rw [List.take_length]
theorem fNames_all (p : PrgV) : fNames p p.funs.length = p.funs.map (·.name) := by unfold fNames; rw [List.take_length]
theorem mNames_len {p : PrgV} {j : Nat} (h : j ≤ p.mems.length) : (mNames p j).length = j := by simp [mNames]; omega
theorem fNames_len {p : PrgV} {j : Nat} (h : j ≤ p.funs.length) : (fNames p j).length = j := by simp [fNames]; omega

section
variable {p : PrgV} {A : Nat → AV} {H : AHeap} {N : Nat} {fs : List Fr} {Q : Post} {v : AV} {l : List ByteArray}

theorem named_mems (hs : l.length + p.mems.length ≤ 1000000000) (h1 : A 1 = .ip p.cells 0) (h3 : A 3 = v) (h9 : A 9 = .sl p.mmk 3 (memCells p.mems)) (h10 : A 10 = i64 p.mems.length) (h11 : A 11 = i64 0) (hG : Gath l H N v)
    (hk : ∀ A' H' N' v', A' 1 = .ip p.cells 0 → A' 3 = v' → Gath (l ++ p.mems.map (·.name)) H' N' v' → onward Tryz.prog fs Q (.exit 0) ⟨A', H', N'⟩) : run Tryz.prog (.loop a_code_namedb2) fs Q ⟨A, H, N⟩ := by
  refine run_loop (fun m s => ∃ j v, j ≤ p.mems.length ∧ m = p.mems.length - j ∧ s.A 1 = .ip p.cells 0 ∧ s.A 3 = v ∧ s.A 9 = .sl p.mmk 3 (memCells p.mems) ∧ s.A 10 = i64 p.mems.length ∧ s.A 11 = i64 j ∧ Gath (l ++ mNames p j) s.H s.N v) p.mems.length ?_ ?_
  · exact ⟨0, v, by omega, by omega, h1, h3, h9, h10, h11, by simpa [mNames] using hG⟩
  · rintro m A1 H1 N1 ⟨j, v, hj, rfl, e1, e3, e9, e10, e11, hG⟩
    simp only at e1 e3 e9 e10 e11 hG
    by_cases hjl : j = p.mems.length
    · subst hjl
      rw [mNames_all] at hG
      simp [a_code_namedb2, e10, e11]
      refine hk _ _ _ v ?_ ?_ hG <;> simp [e1, e3]
    · have hlt : j < p.mems.length := by omega
      obtain ⟨x, hx⟩ : ∃ x, p.mems[j] = x := ⟨_, rfl⟩
      have hix : aindex 3 (.sl p.mmk 3 (memCells p.mems)) (i64 j) = some (.ip x.cells 0) := aindex_sl (by omega) (by simp [memCells, hlt, hx])
      have hsp : splice 0 [str x.name, i64 x.size, i64 x.first] [AV.lit (Value.string ⟨#[]⟩), AV.lit (Value.int .i64 0), AV.lit (Value.int .i64 0)] = [str x.name, i64 x.size, i64 x.first] := by simp [splice]
      obtain ⟨v', H', N', happ, hG', _⟩ := hG.push (.blk [str x.name, i64 x.size, i64 x.first]) x.name (by rw [List.length_append, mNames_len (by omega)]; omega)
      have hnx := mNames_next hlt
      rw [hx] at hnx
      rw [List.append_assoc, ← hnx] at hG'
      simp [a_code_namedb2, e1, e3, e9, e10, e11, hlt, hix, MemV.cells, hsp, happ]
      exact ⟨p.mems.length - (j + 1), by omega, j + 1, by omega, rfl, by rw [wrap_i64 (by omega) (by omega)]; rfl, hG'⟩

theorem named_funs (hs : l.length + p.funs.length ≤ 1000000000) (h3 : A 3 = v) (h26 : A 26 = .sl p.fk 5 (funCells p.funs)) (h27 : A 27 = i64 p.funs.length) (h28 : A 28 = i64 0) (hG : Gath l H N v)
    (hk : ∀ A' H' N' v', A' 3 = v' → Gath (l ++ p.funs.map (·.name)) H' N' v' → onward Tryz.prog fs Q (.exit 2) ⟨A', H', N'⟩) : run Tryz.prog (.loop a_code_namedb1) fs Q ⟨A, H, N⟩ := by
  refine run_loop (fun m s => ∃ j v, j ≤ p.funs.length ∧ m = p.funs.length - j ∧ s.A 3 = v ∧ s.A 26 = .sl p.fk 5 (funCells p.funs) ∧ s.A 27 = i64 p.funs.length ∧ s.A 28 = i64 j ∧ Gath (l ++ fNames p j) s.H s.N v) p.funs.length ?_ ?_
  · exact ⟨0, v, by omega, by omega, h3, h26, h27, h28, by simpa [fNames] using hG⟩
  · rintro m A1 H1 N1 ⟨j, v, hj, rfl, e3, e9, e10, e11, hG⟩
    simp only at e3 e9 e10 e11 hG
    by_cases hjl : j = p.funs.length
    · subst hjl
      rw [fNames_all] at hG
      simp [a_code_namedb1, e10, e11]
      refine hk _ _ _ v ?_ hG <;> simp [e3]
    · have hlt : j < p.funs.length := by omega
      obtain ⟨x, hx⟩ : ∃ x, p.funs[j] = x := ⟨_, rfl⟩
      have hix : aindex 5 (.sl p.fk 5 (funCells p.funs)) (i64 j) = some (.ip x.cells 0) := aindex_sl (by omega) (by simp [funCells, hlt, hx])
      have hsp : splice 0 x.cells [AV.lit (Value.string ⟨#[]⟩), AV.lit (Value.bool false), AV.lit (Value.int .i64 0), AV.lit (Value.int .i64 0), AV.sl .nil 0 []] = x.cells := splice_full (by simp)
      obtain ⟨v', H', N', happ, hG', _⟩ := hG.push (.blk x.cells) x.name (by rw [List.length_append, fNames_len (by omega)]; omega)
      have hnx := fNames_next hlt
      rw [hx] at hnx
      rw [List.append_assoc, ← hnx] at hG'
      simp [a_code_namedb1, e3, e9, e10, e11, hlt, hix, hsp, happ]
      exact ⟨p.funs.length - (j + 1), by omega, j + 1, by omega, rfl, by rw [wrap_i64 (by omega) (by omega)]; rfl, hG'⟩
end

/-- A text that is no name. -/
theorem p_named_1 (s : ByteArray) (hs : s.size ≤ 9223372036854775807) : PCall Tryz.prog 73 [str s] (bl (!nameB s)) := by
  refine PCall.of fun N => acall mixed c_code_named_1 (by simp) ?_
  simp [a_code_named_1]
  refine (p_Name s hs).acall ?_
  simp
  exact .free rfl

theorem a_SortS {H : AHeap} {id : Nat} {l : List (List UInt8)} (hH : H id = some (.blk (l.map (cell Go.Proofs.encStr)))) (h0 : 0 < l.length) (hl : l.length ≤ 1000000000) (N : Nat) :
    ACall Tryz.prog 69 [.ms id 0 l.length 1] H N (fun r H' N' => r = .tup [] ∧ H' = H.set id (.blk ((sortT l).map (cell Go.Proofs.encStr))) ∧ N' = N) :=
  sortG_acall (enc := Go.Proofs.encStr) (fun _ => rfl) (by kernel_rfl) (fun blk off cap zs w h1 h2 h3 => Go.Proofs.Any.slices_Sort_string lays190 blk off cap zs w h1 h2 h3) hH h0 hl
theorem a_CompactS {H : AHeap} {id : Nat} {l : List (List UInt8)} (hH : H id = some (.blk (l.map (cell Go.Proofs.encStr)))) (h0 : 0 < l.length) (hl : l.length ≤ 1000000000) (N : Nat) :
    ACall Tryz.prog 70 [.ms id 0 l.length 1] H N (fun r H' N' => r = .ms id 0 (Lib.compact l).length 1 ∧ H' = H.set id (.blk ((Lib.compact l ++ List.replicate (l.length - (Lib.compact l).length) []).map (cell Go.Proofs.encStr))) ∧ N' = N) :=
  compactG_acall (enc := Go.Proofs.encStr) (fun _ => rfl) (by kernel_rfl) (fun blk off cap zs w h1 h2 h3 => Go.Proofs.Any.slices_Compact_string lays194 blk off cap zs w h1 h2 h3) hH h0 hl
theorem p_SortS_nil {z : Nat} : PCall Tryz.prog 69 [.sl .nil z []] (.tup []) :=
  nil_acall (k := 0) (ra := fun _ => .tup []) (r := fun _ => .tuple #[]) (by kernel_rfl) (fun w => (Go.Proofs.Any.slices_Sort_string_none lays190 none 0 w).mono fun e w' h => ⟨h.1, 0, by rw [h.2]; rfl⟩) (fun e => .tup (vs := []) rfl (fun i c v h => by simp at h))
theorem p_CompactS_nil {z : Nat} : PCall Tryz.prog 70 [.sl .nil z []] (.sl .nil z []) :=
  nil_acall (k := 0) (ra := fun x => x) (r := fun x => x) (by kernel_rfl) (fun w => (Go.Proofs.Any.slices_Compact_string_empty lays194 none 0 w).mono fun e w' h => ⟨h.1, 0, by rw [h.2]; rfl⟩) (fun e => .slNil _)

theorem nameT_any (l : List ByteArray) : (l.map fun s => !nameB s).any id = !l.all nameB := by
  induction l with
  | nil => rfl
  | cons a l ih =>
    simp only [List.map_cons, List.any_cons, List.all_cons] at ih ⊢
    rw [ih]
    simp

theorem p_CloneS_nil : PCall Tryz.prog 71 [.sl .nil 0 []] (.sl .nil 0 []) := by
  refine PCall.of fun N => acall mixed c_slices_Clone_string_string (by simp) ?_
  simp [a_slices_Clone_string_string, nilOf]
  exact .free rfl

theorem a_CloneS {H : AHeap} {id : Nat} {l : List ByteArray} (hH : H id = some (.blk (l.map str))) (h0 : 0 < l.length) (hl : l.length ≤ 1000000000) (N : Nat) :
    ACall Tryz.prog 71 [.ms id 0 l.length 1] H N (fun r H' N' => r = .ms N 0 l.length 1 ∧ H' = H.set N (.blk (l.map str)) ∧ N' = N + 1) := by
  refine acall mixed c_slices_Clone_string_string (by simp) ?_
  have hne : l.length ≠ 0 := by omega
  have happ : aappend false 1 16 H N (.sl .exact 1 []) (.ms id 0 l.length 1) = some (.ms N 0 l.length 1, H.set N (.blk (l.map str)), N + 1) := by
    have hr : l ≠ [] := by intro h; subst h; simp at hne
    simp [aappend, hH, hr, lim]
    refine ⟨⟨by omega, by omega⟩, ?_⟩
    rw [List.take_of_length_le (by simp)]
  simp [a_slices_Clone_string_string, nilOf, happ]

theorem p_named {p : PrgV} (hs : p.mems.length + p.locks.length + p.funs.length ≤ 1000000000) (hz : ∀ s ∈ p.names, s.size ≤ 9223372036854775807) : PCall Tryz.prog 51 [.agg p.cells] (bl (namedB p.names)) := by
  refine PCall.of fun N => acallF mixed c_code_named (by simp) fun hF => ?_
  simp [a_code_named]
  refine named_mems (p := p) (v := .sl .nil 0 []) (l := []) (by simp; omega) ?_ ?_ ?_ ?_ ?_ ⟨.nil, hF⟩ ?_
  · simp
  · simp
  · simp
  · simp
  · simp
  intro A1 H1 N1 v1 e1 e3 hG1
  obtain ⟨v2, H2, N2, happ, hG2⟩ := hG1.more (k := p.lk) (r := p.locks) (by simp; omega)
  have happ' : aappend false 1 16 H1 N1 v1 (.sl p.lk 1 (lockCells p.locks)) = some (v2, H2, N2) := happ
  simp [e1, e3, happ']
  refine named_funs (p := p) (v := v2) (by simp; omega) ?_ ?_ ?_ ?_ hG2 ?_
  · simp
  · simp
  · simp
  · simp
  intro A3 H3 N3 v3 e3 hG3
  have hnames : [] ++ p.mems.map (·.name) ++ p.locks ++ p.funs.map (·.name) = p.names := rfl
  rw [hnames] at hG3
  obtain ⟨L, hL⟩ : ∃ L, p.names = L := ⟨_, rfl⟩
  have hlen : L.length ≤ 1000000000 := by rw [← hL]; simp [PrgV.names]; omega
  rw [hL] at hG3 hz ⊢
  obtain ⟨hsz, ⟨h0, rfl, _⟩ | ⟨hne, id, _, rfl, hid⟩⟩ := hG3.b
  · have hL0 : L = [] := by simpa [strCells] using h0
    subst hL0
    simp [e3]
    refine p_SortS_nil.acall ?_
    simp [e3, nilOf]
    refine p_CloneS_nil.acall ?_
    simp
    refine p_CompactS_nil.acall ?_
    simp [e3]
    refine (p_ContainsFunc_string (H := H3) (es := []) (ts := []) (.nil _ _) (by simp) rfl (by simp) (by simp) N3).mono ?_
    rintro r H4 N4 ⟨rfl, rfl, rfl⟩
    simp
    exact .free rfl
  · have hL0 : L ≠ [] := fun h => hne (by rw [h]; rfl)
    have hL1 : 0 < L.length := List.length_pos_iff.2 hL0
    rw [strCells_flat, bytesL_cells] at hid
    rw [strCells_len] at e3
    have hbl : (bytesL L).length = L.length := by simp [bytesL]
    have hS := a_SortS hid (by omega) (by omega) N3
    rw [hbl] at hS
    simp [e3]
    refine hS.mono ?_
    rintro r H4 N4 ⟨rfl, rfl, rfl⟩
    simp [e3]
    by_cases h256 : (L.length : Int) ≤ 256
    · obtain ⟨S, hS⟩ : ∃ S, sortT (bytesL L) = S := ⟨_, rfl⟩
      have hSl : S.length = L.length := by rw [← hS, (sortT_perm _).length_eq, hbl]
      have hUl : (unB S).length = L.length := by rw [← hSl]; simp [unB]
      have hall := all_sorted L
      have hmem : ∀ s, s ∈ unB S → s ∈ L := fun s hs => by
        have h1 : (unB S).Perm L := by
          have h2 : (unB (sortT (bytesL L))).Perm (unB (bytesL L)) := (sortT_perm (bytesL L)).map _
          have h3 : unB (bytesL L) = L := by unfold unB bytesL; rw [List.map_map]; exact List.map_id L
          rw [h3, ‹sortT (bytesL L) = S›] at h2
          exact h2
        exact h1.mem_iff.1 hs
      have hcomp := compact_nodup (bytesL L)
      rw [hS] at hall hcomp
      rw [hbl, bytesL_nodup] at hcomp
      obtain ⟨H5, hH5⟩ : ∃ H5, (H3.set id (.blk ((sortT (bytesL L)).map (cell Go.Proofs.encStr)))) = H5 := ⟨_, rfl⟩
      have hid5 : H5 id = some (.blk ((unB S).map str)) := by rw [← hH5, ← unB_cells, hS]; simp
      have hF5 : Fresh H5 N4 := by
        rw [← hH5]
        have := hG3.f.lt hid
        intro j hj
        simp only [AHeap.set]
        rw [if_neg (by omega)]
        exact hG3.f j hj
      rw [hH5]
      simp [h256, e3]
      have hC := a_CloneS hid5 (by omega) (by omega) N4
      rw [hUl] at hC
      refine hC.mono ?_
      rintro r H6 N6 ⟨rfl, rfl, rfl⟩
      simp
      have hid6 : (H5.set N4 (.blk ((unB S).map str))) N4 = some (.blk (S.map (cell Go.Proofs.encStr))) := by rw [unB_cells]; simp
      have hP := a_CompactS hid6 (by omega) (by omega) (N4 + 1)
      rw [hSl] at hP
      refine hP.mono ?_
      rintro r H7 N7 ⟨rfl, hH7, rfl⟩
      have hne4 : id ≠ N4 := by have := hF5.lt hid5; omega
      have hid7 : H7 id = some (.blk ((unB S).map str)) := by rw [hH7]; simp [hne4, hid5]
      simp [e3]
      by_cases hnd : L.Nodup
      · have hcl := hcomp.2 hnd
        simp [hcl, e3]
        have hrd : RdSl H7 1 (strCells (unB S)) (.ms id 0 L.length 1) := by
          have := RdSl.ms (H := H7) (sz := 1) (id := id) (es := strCells (unB S)) (by rw [strCells_flat]; exact hid7) (by rw [strCells_flat, strCells_len]; simp)
          rw [strCells_len, hUl] at this
          exact this
        refine (p_ContainsFunc_string hrd (strCells_sz _) (g := 73) (capt := []) (ts := (unB S).map fun s => !nameB s) (by simp [strCells]) (by rw [strCells_len, hUl]; have hm : maxLen = 9223372036854775807 := rfl; omega) (fun i x b hx hb => ?_) _).mono ?_
        · simp only [strCells, List.getElem?_map, Option.map_eq_some_iff] at hx hb
          obtain ⟨s, hs, rfl⟩ := hx
          obtain ⟨s', hs', rfl⟩ := hb
          obtain rfl : s = s' := Option.some.inj (hs.symm.trans hs')
          exact p_named_1 s (hz s (hmem s (List.mem_of_getElem? hs)))
        · rintro r H8 N8 ⟨rfl, rfl, rfl⟩
          have hB : namedB L = L.all nameB := by simp [namedB, hnd]; omega
          rw [nameT_any, hall, hB]
          generalize L.all nameB = q
          simp
          exact .free rfl
      · have hcl : ¬ (Lib.compact S).length = L.length := fun h => hnd (hcomp.1 h)
        have hB : namedB L = false := by simp [namedB, hnd]
        simp [show ¬ ((Lib.compact S).length : Int) = L.length by omega, hcl, hB]
        exact .free rfl
    · have : namedB L = false := by simp [namedB]; intro h; omega
      simp [h256, this]
      exact .free rfl
end Go.Proofs.YtefejpckppabpaaGreatDoor
