/- Framework, part 10c: arrays; cells made zero. -/
import Derived.Test.YtmgmgeijfkcglaaGA
namespace Go.Fw
set_option linter.unusedSimpArgs false
set_option linter.unusedVariables false
open Go
set_option linter.unusedSectionVars false
variable [Globals]

/-- An element of an array. -/
def aindexA (ag : Bool) (sz len : Nat) (x i : AV) : Option AV :=
  match x, i with
  | .agg cs, .lit (.int _ i) => if 0 ≤ i ∧ i < (len : Int) then apart ag sz (i.toNat * sz) cs else none
  | _, _ => none

/-- The address of an element of an array. -/
def aindexP (sz len : Nat) (x i : AV) : Option AV :=
  match x, i with
  | .ip cs off, .lit (.int _ i) => if 0 ≤ i ∧ i < (len : Int) then some (.ip cs (off + i.toNat * sz)) else none
  | .mp id off, .lit (.int _ i) => if 0 ≤ i ∧ i < (len : Int) then some (.mp id (off + i.toNat * sz)) else none
  | _, _ => none

/-- A slice of an array. -/
def asliceA (H : AHeap) (sz n : Nat) (x : AV) (lo hi : Option AV) : Option AV :=
  match bnd 0 lo, bnd n hi with
  | some l, some h =>
    if 0 ≤ l ∧ l ≤ h ∧ h ≤ (n : Int) then
      match x with
      | .ip cs off => if off + n * sz ≤ cs.length then some (.sl .any sz (chunks sz (h.toNat - l.toNat) (cs.drop (off + l.toNat * sz)))) else none
      | .mp id off => match H id with
        | some (.blk cs) => if off + n * sz ≤ cs.length then some (.ms id (off + l.toNat * sz) (h.toNat - l.toNat) sz) else none
        | _ => none
      | _ => none
    else none
  | _, _ => none

/-- 'clear' of a slice. -/
def aclear (H : AHeap) (sz : Nat) (zs : List AV) (x : AV) : Option AHeap :=
  match x with
  | .sl _ _ [] => some H
  | .ms id off len sz' => match H id with
    | some (.blk cs) => if sz' = sz ∧ zs.length = sz ∧ off + len * sz ≤ cs.length then some (H.set id (.blk (splice off (List.replicate len zs).flatten cs))) else none
    | _ => none
  | _ => none

section
variable {P : Program} {e : Env} {H : AHeap}

theorem aindexA_run {t el : TypeId} {len : Nat} {d : TypeDesc} (ht : P.underlying t = some (.array len el)) (hd : P.underlying el = some d) {sz : Nat} (hs : (P.info? el).map (·.size) = some sz) {x i r : AV} {v w : Value}
    (h : aindexA (isAggB P el) sz len x i = some r) (hx : Rep e x v) (hi : Rep e i w) : ∃ u, (Instr.index t v w).run P e.w = .ok u e.w ∧ Rep e r u := by
  obtain ⟨ti, hti, hsz⟩ := size_info hs
  unfold aindexA at h
  split at h
  · rename_i cs ki ii
    split at h
    · rename_i hc
      obtain ⟨h0, h1⟩ := hc
      cases hi
      obtain ⟨vs, rfl, u, h2, h3⟩ := apart_run hd hs h hx
      exact ⟨u, by simp [Instr.index, asIntOf, run_underlying ht, h0, h1, sizeOf, typeInfo, hti, hsz, h2], h3⟩
    · cases h
  · cases h

theorem aindexP_run {t el : TypeId} {len : Nat} (ht : P.underlying t = some (.array len el)) {sz : Nat} (hs : (P.info? el).map (·.size) = some sz) {x i r : AV} {v w : Value}
    (h : aindexP sz len x i = some r) (hx : Rep e x v) (hi : Rep e i w) : ∃ u, (Instr.indexAt t v w).run P e.w = .ok u e.w ∧ Rep e r u := by
  obtain ⟨ti, hti, hsz⟩ := size_info hs
  unfold aindexP at h
  split at h
  · rename_i cs off ki ii
    split at h
    · rename_i hc
      obtain ⟨h0, h1⟩ := hc
      cases h
      cases hi
      obtain ⟨b, o, rfl, hm, hI⟩ := memAt_ip hx
      refine ⟨.pointer (some ⟨b, o + (off + ii.toNat * sz), none⟩), ?_, rep_ip_intro hI hm⟩
      simp [Instr.indexAt, Instr.sureAddr, asIntOf, run_underlying ht, h0, h1, sizeOf, typeInfo, hti, hsz, addr_add, Nat.add_assoc]
    · cases h
  · rename_i id off ki ii
    split at h
    · rename_i hc
      obtain ⟨h0, h1⟩ := hc
      cases h
      cases hi
      cases hx with
      | mp hid =>
        refine ⟨.pointer (some ⟨(e.ρ id).1, (e.ρ id).2 + (off + ii.toNat * sz), none⟩), ?_, .mp hid⟩
        simp [Instr.indexAt, Instr.sureAddr, asIntOf, run_underlying ht, h0, h1, sizeOf, typeInfo, hti, hsz, addr_add, Nat.add_assoc]
    · cases h
  · cases h

theorem asliceA_run (hH : HRep e H) {t el : TypeId} {n : Nat} (ht : P.underlying t = some (.array n el)) {sz : Nat} (hs : (P.info? el).map (·.size) = some sz) {x r : AV} {lo hi : Option AV} {v : Value} {vlo vhi : Option Value}
    (h : asliceA H sz n x lo hi = some r) (hx : Rep e x v) (hlo : RepO e lo vlo) (hhi : RepO e hi vhi) :
    ∃ u, (Instr.sliceAt t v vlo vhi none).run P e.w = .ok u e.w ∧ Rep e r u := by
  obtain ⟨ti, hti, hsz⟩ := size_info hs
  unfold asliceA at h
  split at h
  · rename_i l hh hl hhb
    split at h
    · rename_i hc
      obtain ⟨h0, h1, h2⟩ := hc
      have hb := sliceBounds_run (P := P) (rb_of hl hlo) (rb_of hhb hhi) h0 h1 h2 (Nat.le_refl _) e.w false
      split at h
      · rename_i cs off
        split at h
        · rename_i hlen
          cases h
          obtain ⟨b, o, rfl, hm, hI⟩ := memAt_ip hx
          refine ⟨.slice (some (if n = l.toNat then ⟨b, o + off, none⟩ else ⟨b, o + off + l.toNat * sz, none⟩)) (hh.toNat - l.toNat) (n - l.toNat), ?_, ?_⟩
          · simp [Instr.sliceAt, Instr.sureAddr, run_underlying ht, hb, sizeOf, typeInfo, hti, hsz, addr_add]
          · by_cases hn : n = l.toNat
            · rw [if_pos hn, show hh.toNat - l.toNat = 0 by omega, show n - l.toNat = 0 by omega]
              exact .slE (by simp)
            · rw [if_neg hn]
              have hcap : (hh.toNat - l.toNat) * sz ≤ (n - l.toNat) * sz := Nat.mul_le_mul_right _ (by omega)
              have hadd : l.toNat * sz + (n - l.toNat) * sz = n * sz := by rw [← Nat.add_mul]; congr 1; omega
              refine rep_chunks (by simp) hI (by omega) (by simp) (by simp; omega) (fun j d hj => ?_)
              rw [List.getElem?_drop] at hj
              have := hm _ d hj
              rwa [← Nat.add_assoc, ← Nat.add_assoc] at this
        · cases h
      · rename_i id off
        split at h
        · rename_i _ cs hid
          split at h
          · rename_i hlen
            cases h
            cases hx with
            | mp hidN =>
              obtain ⟨_, _, c, ty, h4, h5, _⟩ := hH.at_ id _ hid
              refine ⟨.slice (some (if n = l.toNat then ⟨(e.ρ id).1, (e.ρ id).2 + off, none⟩ else ⟨(e.ρ id).1, (e.ρ id).2 + off + l.toNat * sz, none⟩)) (hh.toNat - l.toNat) (n - l.toNat), ?_, ?_⟩
              · simp [Instr.sliceAt, Instr.sureAddr, run_underlying ht, hb, sizeOf, typeInfo, hti, hsz, addr_add]
              · by_cases hn : n = l.toNat
                · rw [if_pos hn]
                  exact .ms hidN (by omega) (.inl (by omega))
                · rw [if_neg hn]
                  have hadd : l.toNat * sz + (n - l.toNat) * sz = n * sz := by rw [← Nat.add_mul]; congr 1; omega
                  exact .ms hidN (by omega) (.inr ⟨by rw [Nat.add_assoc], c, ty, _, h4, by omega⟩)
          · cases h
        · cases h
      · cases h
    · cases h
  · cases h


theorem zeroCells_made (z : Array Value) (n : Nat) : Builtin.zeroCells z n = madeCells z (n * z.size) := rfl

theorem aclear_run (hH : HRep e H) {t ty el : TypeId} (ht : P.underlying t = some (.slice el)) {ti : TypeInfo} (hi : P.info? el = some ti) {z : Value} (hz : ti.zero = some z) {zs : List AV} (hzr : RelC e zs z.cells.toList)
    {x : AV} {H' : AHeap} {vx : Value} (h : aclear H ti.size zs x = some H') (hx : Rep e x vx) :
    ∃ e', (Builtin.clear_ #[t] ty #[vx]).run P e.w = .ok (.tuple #[]) e'.w ∧ HRep e' H' ∧ e'.N = e.N ∧ Tr e H e' H' := by
  have hzv : (zeroValue el).run P e.w = .ok z e.w := by simp [zeroValue, run_typeInfo _ hi, hz]
  unfold aclear at h
  split at h
  · cases h
    rcases rep_sl_inv hx with ⟨_, _, rfl⟩ | ⟨_, b, o, cap, rfl, _⟩ | ⟨_, _, ad, rfl⟩ <;> exact ⟨e, by simp [Builtin.clear_, run_underlying ht], hH, rfl, .refl e H⟩
  · rename_i id off len sz'
    split at h
    · rename_i cs hid
      split at h
      · rename_i hc
        obtain ⟨rfl, hzl, hle⟩ := hc
        cases h
        obtain ⟨_, ad, cap, hsp, rfl, hlen, hroom⟩ := rep_ms_inv hx
        by_cases hl0 : len = 0
        · subst hl0
          have hsp : splice off [] cs = cs := by simp [splice]
          simp only [List.replicate_zero, List.flatten_nil]
          rw [hsp, set_self hid]
          exact ⟨e, by simp [Builtin.clear_, run_underlying ht], hH, rfl, .refl e H⟩
        · rcases hroom with h0 | ⟨rfl, _⟩
          · omega
          · obtain ⟨hN, hI, c, t0, hg, hle0, hm'⟩ := hH.at_ id _ hid
            have hrel := relC_made hzr len len (Nat.le_refl _)
            have hzc : z.cells.size = zs.length := by have := hzr.1; simpa using this
            have hus : (madeCells z.cells (len * zs.length)).toList.take (len * zs.length) = (Builtin.zeroCells z.cells len).toList := by
              rw [zeroCells_made, hzc]
              exact List.take_of_length_le (by simp [size_madeCells])
            rw [hus] at hrel
            have hone : ∀ u ∈ (Builtin.zeroCells z.cells len).toList, u.oneCell' = true := fun u hu => by
              obtain ⟨i, hi, rfl⟩ := List.getElem_of_mem hu
              have hi' : i < ((List.replicate len zs).flatten).length := by rw [← hrel.1]; exact hi
              exact (hrel.2 i _ _ (List.getElem?_eq_getElem hi') (by simp at hi; simp [hi])).1
            have hfl : ((List.replicate len zs).flatten).length = len * ti.size := by simp [hzl]
            obtain ⟨k1, k2⟩ := orep_store (us := (Builtin.zeroCells z.cells len).toList) hH hid hg hrel.1 (off := off) (vcs := (List.replicate len zs).flatten) (by omega) hrel.2
            refine ⟨_, ?_, hrep_setRow hH hid hg k1 k2, rfl, tr_setRow hH _ hid hg k1⟩
            have hul : (Builtin.zeroCells z.cells len).toList.length = len * ti.size := by rw [hrel.1, hfl]
            have hst := run_storeCells_at P (e.ρ id).1 ((e.ρ id).2 + off) t0 (Builtin.zeroCells z.cells len).toList 0 c e.w hg (by omega) hone
            simp only [Nat.add_zero] at hst
            obtain ⟨m, rfl⟩ : ∃ m, len = m + 1 := ⟨len - 1, by omega⟩
            simp only [Env.setRow] at hst ⊢
            simp [Builtin.clear_, run_underlying ht, hzv] at hst ⊢
            rw [hst]
            rfl
      · cases h
    · cases h
  · cases h

end
end Go.Fw
