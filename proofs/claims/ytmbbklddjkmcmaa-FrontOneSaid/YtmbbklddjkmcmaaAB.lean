/- dom: what a tree tells. -/
import Derived.Test.YtmbbklddjkmcmaaAA
import Derived.Test.YtmbbklddjkmcmaaM5
namespace Go.Proofs.Ytmbbklddjkmcmaa
set_option linter.unusedSimpArgs false
set_option linter.unusedVariables false
open Go Go.Fw Go.Dm

/-- Is a block reached? -/
def rchI (bs : List Nat) (b : Int) : Bool := decide (0 ≤ b ∧ b.toNat ∈ bs)
/-- The next one above. -/
def nxI (L : List Int) (bs : List Nat) (b : Int) : Int := if rchI bs b = true then L.getD b.toNat (-1) else -1

/-- The way up. -/
inductive Ups (L : List Int) : Nat → List Nat → Prop
  | last {b : Nat} : L[b]? = some (-1) → Ups L b [b]
  | more {b d : Nat} {l : List Nat} : L[b]? = some (d : Int) → Ups L d l → Ups L b (b :: l)

theorem Ups.mem {L : List Int} {b c : Nat} {l : List Nat} (h : Ups L b l) : c ∈ l ↔ Up (nxOf L) c b := by
  induction h with
  | @last b h1 =>
    rw [List.mem_singleton]
    constructor
    · rintro rfl; exact .refl _
    · intro h
      cases h with
      | refl => rfl
      | step h2 _ => rw [nxOf_minus h1] at h2; cases h2
  | @more b d l h1 _ ih =>
    have hn : nxOf L b = some d := by unfold nxOf; rw [h1]; simp
    rw [List.mem_cons, ih]
    constructor
    · rintro (rfl | h)
      · exact .refl _
      · exact .step hn h
    · intro h
      cases h with
      | refl => exact .inl rfl
      | step h2 h3 => rw [hn] at h2; cases h2; exact .inr h3

section
variable {g : List RowV} {L : List Int} {bs : List Nat} {b : Nat}

theorem TreeOk.nx (h : TreeOk g L bs) {x : Nat} (hx : x < g.length) : (L[x]? = some (-1) ∧ nxOf L x = none) ∨ ∃ d : Nat, L[x]? = some (d : Int) ∧ nxOf L x = some d := by
  have hl : x < L.length := by rw [h.ll]; exact hx
  have hg : L[x]? = some L[x] := List.getElem?_eq_getElem hl
  rcases h.l x _ hg with h1 | h1
  · left; rw [hg, h1]; exact ⟨rfl, nxOf_minus (by rw [hg, h1])⟩
  · right
    refine ⟨L[x].toNat, by rw [hg]; congr 1; omega, ?_⟩
    unfold nxOf; rw [hg]; simp [h1]

theorem TreeOk.ups (h : TreeOk g L bs) : ∀ (n : Nat) {b : Nat}, bs.idxOf b ≤ n → Rch (Edge g) b → ∃ l, Ups L b l
  | n, b, hn, hb => by
    have hbg := h.row.lt b ((h.row.mem b).2 hb)
    rcases h.nx hbg with ⟨h1, _⟩ | ⟨d, h1, h2⟩
    · exact ⟨_, .last h1⟩
    · have hd := h.sol.fit.dn b d hb h2
      have hlt : bs.idxOf d < bs.idxOf b := hd.2.1
      match n, hn with
      | 0, hn => omega
      | n + 1, hn =>
        obtain ⟨l, hl⟩ := h.ups n (b := d) (by omega) hd.1
        exact ⟨_, .more h1 hl⟩

theorem p_Reached (h : TreeOk g L bs) (b : Int) : PCall Try.prog 21 [treeV g.length L bs, i64 b] (bl (rchI bs b)) := by
  refine PCall.of fun N => acall mixed c_dom_Tree_Reached (by simp) ?_
  have hlen : alen 1 (.sl .any 1 (intCells (plcs g.length bs bs.length))) = some (g.length : Int) := by
    have := (RdSl.sl (H := noHeap) (sz := 1) (es := intCells (plcs g.length bs bs.length)) .any).len
    rw [intCells_len, plcs_len] at this
    exact this
  by_cases h0 : b < 0
  · simp [a_dom_Tree_Reached, treeV, show ¬ 0 ≤ b by omega, rchI]
    exact .free rfl
  · by_cases hn : g.length ≤ b
    · have hm : b.toNat ∉ bs := fun hm => by have := h.row.lt _ hm; omega
      simp [a_dom_Tree_Reached, treeV, hlen, show 0 ≤ b by omega, show ¬ b < (g.length : Int) by omega, rchI, hm, -alen]
      exact .free rfl
    · have hlt : b.toNat < g.length := by omega
      have hp := plcs_at (bs := bs) (j := bs.length) hlt
      have hq : aindex 1 (.sl .any 1 (intCells (plcs g.length bs bs.length))) (i64 b) = some (.ip [i64 (if bs.idxOf b.toNat < bs.length then ((bs.idxOf b.toNat : Nat) : Int) else -1)] 0) := by
        refine aindex_sl (by omega) ?_
        simp only [intCells, List.getElem?_map, hp, Option.map_some]
      by_cases hm : b.toNat ∈ bs
      · rw [if_pos (List.idxOf_lt_length_iff.2 hm)] at hq
        simp [a_dom_Tree_Reached, treeV, hlen, hq, show 0 ≤ b by omega, show b < (g.length : Int) by omega, rchI, hm, show (0 : Int) ≤ ((bs.idxOf b.toNat : Nat) : Int) by omega, -alen]
        exact .free rfl
      · rw [if_neg (fun hh => hm (List.idxOf_lt_length_iff.1 hh))] at hq
        simp [a_dom_Tree_Reached, treeV, hlen, hq, show 0 ≤ b by omega, show b < (g.length : Int) by omega, rchI, hm, -alen]
        exact .free rfl

theorem next_at (h : TreeOk g L bs) {b : Nat} (hb : b < g.length) : aindex 1 (.sl .any 1 (intCells L)) (i64 b) = some (.ip [i64 (L.getD b (-1))] 0) := by
  have hbl : b < L.length := by rw [h.ll]; exact hb
  refine aindex_sl (by omega) ?_
  simp [intCells, hbl, List.getD]

theorem p_Next (h : TreeOk g L bs) (b : Int) : PCall Try.prog 22 [treeV g.length L bs, i64 b] (i64 (nxI L bs b)) := by
  refine PCall.of fun N => acall mixed c_dom_Tree_Next (by simp) ?_
  simp [a_dom_Tree_Next]
  refine (p_Reached h b).acall ?_
  by_cases hr : rchI bs b = true
  · have hr' := hr
    simp [rchI] at hr'
    have hlt := h.row.lt _ hr'.2
    have hq := next_at h hlt
    rw [show ((b.toNat : Nat) : Int) = b by omega] at hq
    simp [hr, treeV, hq, nxI]
    exact .free rfl
  · simp [hr, nxI]
    exact .free rfl

def upfn (o : Nat) (t : AV) : List AV := [.mp o 0, .ip [t] 0]

theorem a_ups (t : AV) (ht : t.cells = some [t]) (b : Int) {H : AHeap} {N : Nat} :
    ACall Try.prog 45 [t, i64 b] H N (fun r H' N' => r = .fn (.func 59) [] (upfn N t) ∧ H' = H.set N (.blk [i64 b]) ∧ N' = N + 1) := by
  refine acall mixed c_dom_Tree_ups (by simp) ?_
  simp [a_dom_Tree_ups, ht, upfn, -AV.cells]

/-- Where the way up stands. -/
structure UpsI (L : List Int) (l : List Nat) (tv : AV) (o y N : Nat) (J : Nat → AHeap → Prop) (k : Nat) (s : St) : Prop where
  ex : ∃ (i : Nat) (v : Int), k = l.length - i ∧ i ≤ l.length ∧ s.A 0 = .yl y ∧ s.A 1 = .mp o 0 ∧ s.A 2 = .ip [tv] 0 ∧ N ≤ s.N ∧ J i s.H ∧ s.H o = some (.blk [i64 v]) ∧
      ((i = l.length ∧ v = -1) ∨ ∃ b : Nat, v = b ∧ Ups L b (l.drop i))

theorem s_ups (h : TreeOk g L bs) {b o : Nat} {l : List Nat} (hl : Ups L b l) : SeqO Try.prog 59 (upfn o (treeV g.length L bs)) o (.blk [i64 b]) (l.map fun (v : Nat) => [i64 v]) := by
  refine ⟨goodFn_of c_dom_Tree_ups_1, fun y N H J Kx ho hJo h0 hy => ?_⟩
  refine acall mixed c_dom_Tree_ups_1 (by simp [upfn]) ?_
  simp [a_dom_Tree_ups_1, upfn]
  refine run_loop (UpsI L l (treeV g.length L bs) o y N J) l.length ?_ ?_
  · exact ⟨0, b, by omega, by omega, by simp, by simp, by simp, Nat.le_refl _, h0, ho, .inr ⟨b, rfl, hl⟩⟩
  · rintro k A H1 N1 ⟨⟨i, v, rfl, hi, e0, e1, e2, hN1, hJ, hoV, hcase⟩⟩
    simp only at e0 e1 e2 hN1 hJ hoV
    rcases hcase with ⟨rfl, rfl⟩ | ⟨b', rfl, hU⟩
    · simp [a_dom_Tree_ups_1b1, e1, hoV]
      exact ⟨hN1, .inl hJ⟩
    · have hlt : i < l.length := by
        rcases Nat.lt_or_ge i l.length with h1 | h1
        · exact h1
        · rw [List.drop_eq_nil_of_le h1] at hU; cases hU
      have hx : (l.map fun (v : Nat) => [i64 v])[i]? = some [i64 b'] := by
        have h0 : (l.drop i)[0]? = some b' := by
          generalize l.drop i = m at hU
          cases hU <;> rfl
        rw [List.getElem?_drop] at h0
        simp at h0
        simp [h0]
      have hb0 : decide ((0 : Int) ≤ (b' : Int)) = true := decide_eq_true (by omega)
      simp [a_dom_Tree_ups_1b1, e0, e1, hoV]
      refine (hy i _ H1 N1 _ hx hN1 hJ hoV).monoF ?_
      rintro r H2 N2 (⟨rfl, hJ2, ho2⟩ | ⟨rfl, hK⟩) hF2 hN2
      · obtain ⟨v', hv', hrest⟩ : ∃ v' : Int, L[b']? = some v' ∧ ((i + 1 = l.length ∧ v' = -1) ∨ ∃ d : Nat, v' = d ∧ Ups L d (l.drop (i + 1))) := by
          have hdd : l.drop (i + 1) = (l.drop i).drop 1 := by rw [List.drop_drop]
          have hll : (l.drop i).length = l.length - i := by simp
          rw [hdd]
          generalize l.drop i = m at hU hll
          cases hU with
          | last h1 => exact ⟨_, h1, .inl ⟨by simp at hll; omega, rfl⟩⟩
          | more h1 h2 => exact ⟨_, h1, .inr ⟨_, rfl, h2⟩⟩
        have hbg : b' < g.length := by rw [← h.ll]; exact (List.getElem?_eq_some_iff.1 hv').1
        have hq := next_at h hbg
        rw [show L.getD b' (-1) = v' by simp [List.getD, hv']] at hq
        simp [e1, e2, ho2, treeV, hq]
        exact ⟨l.length - (i + 1), by omega, ⟨i + 1, v', rfl, by omega, e0, e1, e2, Nat.le_trans hN1 hN2, hJo _ _ _ hJ2, by simp, hrest⟩⟩
      · simp
        exact ⟨by omega, .inr hK⟩

open Classical in
/-- Is a above b? -/
noncomputable def abI (L : List Int) (bs : List Nat) (a b : Int) : Bool := rchI bs a && (rchI bs b && decide (Up (nxOf L) a.toNat b.toNat))

theorem p_Above (h : TreeOk g L bs) (a b : Int) : PCall Try.prog 26 [treeV g.length L bs, i64 a, i64 b] (bl (abI L bs a b)) := by
  refine PCall.of fun N => acall mixed c_dom_Tree_Above (by simp) ?_
  have hcell : (treeV g.length L bs).cells = some [treeV g.length L bs] := rfl
  simp [a_dom_Tree_Above]
  refine (p_Reached h a).acall ?_
  by_cases ha : rchI bs a = true
  · simp [ha]
    refine (p_Reached h b).acall ?_
    by_cases hb : rchI bs b = true
    · simp [hb]
      have hb' := hb
      simp [rchI] at hb'
      have ha' := ha
      simp [rchI] at ha'
      obtain ⟨l, hl⟩ := h.ups (bs.idxOf b.toNat) (Nat.le_refl _) ((h.row.mem _).1 hb'.2)
      refine (a_ups (treeV g.length L bs) hcell b).monoF ?_
      rintro r H1 N1 ⟨rfl, rfl, rfl⟩ hF1 _
      simp
      have hs := s_ups (o := N + 1) h hl
      refine range_seqO hs (fun i G => (∀ j, j < i → l[j]? ≠ some a.toNat) ∧ ∃ v, G N = some (.blk [v])) (fun x G => x = .ret ∧ a.toNat ∈ l ∧ G N = some (.blk [bl true])) (by simp) hF1 ?_ ?_ ?_ ?_ ?_ ?_
      · rw [show ((b.toNat : Nat) : Int) = b by omega]; simp
      · rintro i H c ⟨h1, v, h2⟩
        exact ⟨h1, v, by simp [h2]⟩
      · exact ⟨fun j hj => by omega, _, by simp; rfl⟩
      · rintro o ob i x G N1 c hx hN1 hFG hGN ⟨hj, v, hv⟩ hc
        obtain ⟨d, hd, rfl⟩ : ∃ d, l[i]? = some d ∧ [i64 (d : Int)] = x := by simpa using hx
        by_cases hda : d = a.toNat
        · subst hda
          have hm := List.mem_of_getElem? hd
          simp [show max a 0 = a by omega, aload_ip, hv, hm, show N ≠ N + 1 + 1 by omega, show N + 1 + 1 ≠ N by omega, AHeap.del, -aload]
        · have hne : ¬ ((d : Int) = a) := by omega
          simp [hne, aload_ip, hc, hv, show N ≠ N + 1 + 1 by omega, AHeap.del, -aload]
          intro j hji
          by_cases hij : j = i
          · subst hij; rw [hd]; simpa using hda
          · simpa using hj j (by omega)
      · rintro H2 N2 hN2 ⟨hj, v, hv⟩
        have hno : ¬ Up (nxOf L) a.toNat b.toNat := fun hu => by
          obtain ⟨j, hjl, hja⟩ := List.getElem_of_mem (hl.mem.2 hu)
          exact hj j (by simpa using hjl) (by rw [List.getElem?_eq_getElem hjl, hja])
        simp [hv, abI, hno]
        exact .free rfl
      · rintro x H2 N2 hx hN2 ⟨rfl, hm, hv⟩
        have hyes : Up (nxOf L) a.toNat b.toNat := hl.mem.1 hm
        simp [hv, abI, ha, hb, hyes]
        exact .free rfl
    · simp [hb, abI]
      exact .free rfl
  · simp [ha, abI]
    exact .free rfl

end
end Go.Proofs.Ytmbbklddjkmcmaa
