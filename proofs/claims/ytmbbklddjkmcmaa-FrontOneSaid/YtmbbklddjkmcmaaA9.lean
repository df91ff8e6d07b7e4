/- dom: the rounds. -/
import Derived.Test.YtmbbklddjkmcmaaA8
namespace Go.Proofs.Ytmbbklddjkmcmaa
set_option linter.unusedSimpArgs false
set_option linter.unusedVariables false
open Go Go.Fw Go.Dm

theorem nxOf_set {L : List Int} {b m : Nat} (hb : b < L.length) : nxOf (L.set b (m : Int)) = put (nxOf L) b m := by
  funext x
  unfold nxOf put
  rw [List.getElem?_set]
  by_cases hx : x = b
  · subst hx; simp [hb]
  · simp [hx, Ne.symm hx]

theorem Mk.set {g : List RowV} {bs : List Nat} {pr : Nat → Nat} {L P : List Int} (h : Mk g bs pr L P) (b m : Nat) : Mk g bs pr (L.set b (m : Int)) P := by
  refine ⟨h.row, h.ord, by simp [h.ll], h.lp, h.p, h.pn, fun x v hv => ?_⟩
  rw [List.getElem?_set] at hv
  split at hv
  · split at hv
    · cases hv; right; omega
    · cases hv
  · exact h.l x v hv

theorem TAt.tn {H : AHeap} {t ni qi : Nat} {L P : List Int} (h : TAt H t ni qi L P) (hl : 0 < L.length) : t ≠ ni ∧ t ≠ qi := by
  refine ⟨fun he => ?_, fun he => ?_⟩
  · have h1 := h.t
    rw [he, h.n] at h1
    cases L with
    | nil => simp at hl
    | cons a L => cases h1
  · have h1 := h.t
    rw [he, h.p] at h1
    have := h.len
    cases P with
    | nil => simp at this; omega
    | cons a P => cases h1

section
variable {g : List RowV} {bs : List Nat} {pr : Nat → Nat} {L P : List Int} {H : AHeap} {t ni qi b m : Nat} {w : List (List Int)} {A : Nat → AV} {N : Nat} {fs : List Fr} {Q : Post} {v : Int}

theorem TAt.setn (h : TAt H t ni qi L P) (hl : 0 < L.length) (b : Nat) (v : Int) : TAt (H.set ni (.blk ((L.map i64).set b (i64 v)))) t ni qi (L.set b v) P := by
  have := h.tn hl
  exact ⟨by simp [this.1, h.t], by simp [List.map_set], by simp [Ne.symm h.ne, h.p], by simp [h.len], h.ne⟩

theorem of_put (hT : TAt H t ni qi L P) (hb : L[b]? = some v) (h4 : A 4 = .mp t 0) (h11 : A 11 = i64 b) (h12 : A 12 = i64 m)
    (hk1 : v = m → ∀ A', (∀ t ∈ [4, 5, 6, 9, 49, 50, 51], A' t = A t) → onward Try.prog fs Q .normal ⟨A', H, N⟩)
    (hk2 : v ≠ m → ∀ A' H', (∀ t ∈ [4, 5, 6, 49, 50, 51], A' t = A t) → A' 9 = bl true → TAt H' t ni qi (L.set b (m : Int)) P → onward Try.prog fs Q .normal ⟨A', H', N⟩) : run Try.prog a_Of_put fs Q ⟨A, H, N⟩ := by
  have hbl : b < L.length := (List.getElem?_eq_some_iff.1 hb).1
  have gb : L[b] = v := (List.getElem?_eq_some_iff.1 hb).2
  have ht := hT.t
  have hn := hT.n
  have inn : aindex 1 (.ms ni 0 L.length 1) (i64 b) = some (.mp ni b) := by simp [aindex, hbl]
  by_cases hv : v = m
  · simp [a_Of_put, h4, h11, h12, ht, hn, inn, hbl, gb, hv]
    exact hk1 hv _ (by simp)
  · have hs := hT.setn (by omega) b (m : Int)
    simp [a_Of_put, h4, h11, h12, ht, hn, inn, hbl, gb, hv, show b + 1 ≤ L.length by omega]
    exact hk2 hv _ _ (by simp [h4]) (by simp) hs

theorem ways_done {O : Nat → Option Nat} {l : List Int} {i : Nat} (hw : FromOk g w) (hwl : w[b]? = some l) (hW : WaysAt (Edge g) (nxOf L) l l.length v) (hP : Part (Edge g) (fun b => bs.idxOf b) O (nxOf L) i)
    (hO : Old (Edge g) (fun b => bs.idxOf b) pr O) (ho : Dm.Ord (Edge g) (fun b => bs.idxOf b) pr) (hb : Rch (Edge g) b) (hb0 : b ≠ 0) (hi : bs.idxOf b = i) :
    ∃ m : Nat, v = m ∧ Rch (Edge g) m ∧ bs.idxOf m < bs.idxOf b ∧ Glb (Edge g) (nxOf L) b m := by
  obtain ⟨hrp, hE, hlt⟩ := ho.pr b hb hb0
  have hdp : Dfd (nxOf L) (pr b) := by
    by_cases h0 : pr b = 0
    · exact .inl h0
    · obtain ⟨d, hd, _⟩ := hP.dn (pr b) hrp h0 (by omega)
      exact .inr ⟨d, hd⟩
  have idx : ∀ p : Nat, Edge g p b → ∃ j : Nat, j < l.length ∧ l[j]? = some (p : Int) := fun p hp => by
    have hm := (hw.mem b l hwl (p : Int)).2 ⟨p, rfl, hp⟩
    obtain ⟨j, hj, h1⟩ := List.getElem_of_mem hm
    exact ⟨j, hj, by rw [List.getElem?_eq_getElem hj, h1]⟩
  rcases hW with ⟨_, h2⟩ | ⟨m, rfl, hrm, hdm, hgm⟩
  · obtain ⟨j, hj, hjp⟩ := idx _ hE
    exact absurd ⟨hrp, hdp⟩ (h2 j _ hj hjp)
  · refine ⟨m, rfl, hrm, ?_, fun c => ?_⟩
    · obtain ⟨j, hj, hjp⟩ := idx _ hE
      have := ((hgm m).1 (.refl m) j _ hj hjp hrp hdp).le (hP.fit hO) hrp
      exact Nat.lt_of_le_of_lt this hlt
    · rw [hgm c]
      constructor
      · intro hh p hp hpE hd
        obtain ⟨j, hj, hjp⟩ := idx _ hpE
        exact hh j p hj hjp hp hd
      · intro hh j p hj hjp hp hd
        obtain ⟨a, h1, h2⟩ := (hw.mem b l hwl (p : Int)).1 (List.mem_of_getElem? hjp)
        have : p = a := by omega
        subst this
        exact hh p hp h2 hd

/-- What does not change while the tree is made. -/
structure OfC (g : List RowV) (bs : List Nat) (w : List (List Int)) (t : Nat) (A : Nat → AV) : Prop where
  h4 : A 4 = .mp t 0
  h5 : A 5 = .sl .any 1 (intCells (natI bs))
  h6 : A 6 = .sl .any 1 (rowsV w)

/-- Where a round stands. -/
structure RndI (g : List RowV) (bs : List Nat) (pr : Nat → Nat) (O : Nat → Option Nat) (w : List (List Int)) (t ni qi : Nat) (P : List Int) (N k : Nat) (s : St) : Prop where
  ex : ∃ (j : Nat) (L : List Int) (ch : Bool), j + 1 ≤ bs.length ∧ k = bs.length - (j + 1) ∧ OfC g bs w t s.A ∧ s.A 49 = .sl .any 1 (intCells (natI bs.tail)) ∧ s.A 50 = i64 (bs.length - 1 : Nat) ∧ s.A 51 = i64 j ∧ s.A 9 = bl ch ∧ s.N = N ∧
    TAt s.H t ni qi L P ∧ Mk g bs pr L P ∧ (∀ x, ¬ Rch (Edge g) x → nxOf L x = none) ∧ Part (Edge g) (fun b => bs.idxOf b) O (nxOf L) (j + 1) ∧ (ch = false → nxOf L = O) ∧ (ch = true → ∃ x, Rch (Edge g) x ∧ x ≠ 0 ∧ nxOf L x ≠ O x)

theorem idx_at {l : List Nat} (h : l.Nodup) {j b : Nat} (hj : l[j]? = some b) : l.idxOf b = j := by
  have hlt := (List.getElem?_eq_some_iff.1 hj).1
  have hb := (List.getElem?_eq_some_iff.1 hj).2
  rw [← hb]
  exact h.idxOf_getElem j hlt

theorem of_round (hC : OfC g bs w t A) (h49 : A 49 = .sl .any 1 (intCells (natI bs.tail))) (h50 : A 50 = i64 (bs.length - 1 : Nat)) (h51 : A 51 = i64 0) (h9 : A 9 = bl false)
    (hT : TAt H t ni qi L P) (hM : Mk g bs pr L P) (hun : ∀ x, ¬ Rch (Edge g) x → nxOf L x = none) (hO : Old (Edge g) (fun b => bs.idxOf b) pr (nxOf L)) (hw : FromOk g w) (hsh : edges g ≤ 1000000000) (hn : g.length ≤ 32768)
    (hk : ∀ A' H' L' ch, OfC g bs w t A' → A' 9 = bl ch → TAt H' t ni qi L' P → Mk g bs pr L' P → (∀ x, ¬ Rch (Edge g) x → nxOf L' x = none) → Whole (Edge g) (fun b => bs.idxOf b) (nxOf L) (nxOf L') →
      (ch = false → nxOf L' = nxOf L) → (ch = true → ∃ x, Rch (Edge g) x ∧ x ≠ 0 ∧ nxOf L' x ≠ nxOf L x) → onward Try.prog fs Q (.exit 4) ⟨A', H', N⟩) : run Try.prog (.loop a_dom_Ofb2) fs Q ⟨A, H, N⟩ := by
  have hR := hM.row
  have ho := hM.ord
  have hbs0 : 0 < bs.length := (List.getElem?_eq_some_iff.1 hR.zero).1
  have hbl : bs.length ≤ g.length := by
    have := List.Nodup.length_le_of_subset (l₂ := List.range g.length) hR.nodup (fun x hx => List.mem_range.2 (hR.lt x hx))
    simpa using this
  refine run_loop (RndI g bs pr (nxOf L) w t ni qi P N) (bs.length - 1) ?_ ?_
  · exact ⟨0, L, false, by omega, rfl, hC, h49, h50, h51, h9, rfl, hT, hM, hun, Part.start ho hO, fun _ => rfl, fun h => by cases h⟩
  · rintro k A1 H1 N1 ⟨j, L1, ch, hj, rfl, hC1, e49, e50, e51, e9, hNe, hT1, hM1, hun1, hP1, hc0, hc1⟩
    simp only at hC1 e49 e50 e51 e9 hNe hT1
    subst hNe
    unfold a_dom_Ofb2
    obtain ⟨_, ew⟩ : ∃ c, a_Of_ways = c := ⟨_, rfl⟩
    rw [ew]
    obtain ⟨_, ep⟩ : ∃ c, a_Of_put = c := ⟨_, rfl⟩
    rw [ep]
    by_cases hjl : j = bs.length - 1
    · subst hjl
      simp [e50, e51]
      refine hk _ _ L1 ch ⟨by simp [hC1.h4], by simp [hC1.h5], by simp [hC1.h6]⟩ (by simp [e9]) hT1 hM1 hun1 ?_ hc0 hc1
      refine hP1.whole fun x hx => ?_
      have := List.idxOf_lt_length_iff.2 ((hR.mem x).2 hx)
      show bs.idxOf x < bs.length - 1 + 1
      omega
    · have hlt : j < bs.length - 1 := by omega
      have hjb : j + 1 < bs.length := by omega
      obtain ⟨b, hb⟩ : ∃ b, bs[j + 1]? = some b := ⟨_, List.getElem?_eq_getElem hjb⟩
      have hbt : bs.tail[j]? = some b := by rw [List.getElem?_tail]; exact hb
      have hbm : b ∈ bs := List.mem_of_getElem? hb
      have hrb : Rch (Edge g) b := (hR.mem b).1 hbm
      have hbg : b < g.length := hR.lt b hbm
      have hib : bs.idxOf b = j + 1 := idx_at hR.nodup hb
      have hb0 : b ≠ 0 := fun h0 => by
        have := idx_at hR.nodup hR.zero
        subst h0; omega
      have hq : aindex 1 (.sl .any 1 (intCells (natI bs.tail))) (i64 j) = some (.ip [i64 b] 0) := by
        refine aindex_sl (by omega) ?_
        simp [intCells, natI, hb]
      have hj2 : decide ((j : Int) < ((bs.length - 1 : Nat) : Int)) = true := decide_eq_true (by omega)
      simp [e49, e50, e51, hq, hlt, aload_ip, -alen]
      rw [← ew]
      refine of_ways hT1 hM1 (hP1.fit hO) hw hbg hsh (t := t) ?_ ?_ ?_ ?_ ?_
      · exact hC1.h4
      · exact hC1.h6
      · rfl
      · rfl
      intro A2 l v hwl hA2 h12 hW
      obtain ⟨m, rfl, hrm, hml, hG⟩ := ways_done hw hwl hW hP1 hO ho hrb hb0 hib
      have hbL : b < L1.length := by rw [hM1.ll]; exact hbg
      have hLb : L1[b]? = some L1[b] := List.getElem?_eq_getElem hbL
      have hA := hA2
      simp at hA
      have hP2 := Part.step ho hO hP1 hrb hb0 hib hrm hml hG
      have hset := nxOf_set (L := L1) (m := m) hbL
      have hoff : nxOf L1 b = nxOf L b := hP1.old b hrb (by show j + 1 ≤ bs.idxOf b; omega)
      have wr : IntKind.i64.wrap ((j : Int) + 1) = ((j + 1 : Nat) : Int) := by rw [wrap_i64 (by omega) (by omega)]; rfl
      simp
      rw [← ep]
      refine of_put hT1 hLb (by rw [hA.1, hC1.h4]) (by rw [hA.2.2.2.2.1]) h12 ?_ ?_
      · intro hv A3 h3
        have h3' := h3
        simp at h3'
        have hsame : L1.set b (m : Int) = L1 := by
          apply List.ext_getElem?
          intro i
          rw [List.getElem?_set]
          split
          · rename_i hi; subst hi; simp [hbL, hLb, hv]
          · rfl
        rw [hsame] at hset
        rw [← hset] at hP2
        simp [h3', hA, e51, wr]
        refine ⟨bs.length - (j + 1 + 1), by omega, ⟨j + 1, L1, ch, by omega, rfl, ⟨by simp [h3', hA, hC1.h4], by simp [h3', hA, hC1.h5], by simp [h3', hA, hC1.h6]⟩, by simp [h3', hA, e49], by simp [h3', hA, e50], by simp [wr], by simp [h3', hA, e9], rfl, hT1, hM1, hun1, hP2, hc0, hc1⟩⟩
      · intro hv A3 H3 h3 h39 hT3
        have h3' := h3
        simp at h3'
        simp [h3', hA, e51, wr]
        rw [← hset] at hP2
        refine ⟨bs.length - (j + 1 + 1), by omega, ⟨j + 1, L1.set b (m : Int), true, by omega, rfl, ⟨by simp [h3', hA, hC1.h4], by simp [h3', hA, hC1.h5], by simp [h3', hA, hC1.h6]⟩, by simp [h3', hA, e49], by simp [h3', hA, e50], by simp [wr], by simp [h39], rfl, hT3, hM1.set b m, ?_, hP2, (fun h => by cases h), fun _ => ⟨b, hrb, hb0, ?_⟩⟩⟩
        · intro x hx
          rw [hset, put_ne (fun h => by subst h; exact hx hrb)]
          exact hun1 x hx
        · rw [hset, put_eq, ← hoff]
          intro h
          have := nxOf_some h.symm
          rw [hLb] at this
          exact hv (Option.some.inj this)

end
end Go.Proofs.Ytmbbklddjkmcmaa
