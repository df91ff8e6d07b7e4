/- front: Of. -/
import Derived.Test.YtmbbklddjkmcmaaET
namespace Go.Proofs.Ytmbbklddjkmcmaa
set_option linter.unusedSimpArgs false
set_option linter.unusedVariables false
open Go Go.Fw Go.Dm

/-- A slice of its own that holds these first. -/
def SlAt (H : AHeap) (v : AV) (l : List Int) : Prop := (l = [] ∧ v = .sl .nil 0 []) ∨ (l ≠ [] ∧ ∃ (i : Nat) (z : List Int), v = .ms i 0 l.length 1 ∧ H i = some (.blk ((l ++ z).map i64)))

theorem SlAt.rd {H : AHeap} {v : AV} {l : List Int} (h : SlAt H v l) : RdSl H 1 (intCells l) v := by
  rcases h with ⟨rfl, rfl⟩ | ⟨_, i, z, rfl, h1⟩
  · exact .nil _ _
  · refine .inr ⟨i, 0, _, by rw [intCells_len], .inr ⟨h1, ?_, ?_⟩⟩
    · rw [intCells_len]; simp
    · rw [intCells_len, intCells_flat, List.drop_zero, Nat.mul_one, List.map_append, List.take_left' (by simp)]
theorem SlAt.keep {H H' : AHeap} {v : AV} {l : List Int} (h : SlAt H v l) (hk : ∀ i n, v = .ms i 0 n 1 → H' i = H i) : SlAt H' v l := by
  rcases h with ⟨h1, h2⟩ | ⟨h0, i, z, h1, h2⟩
  · exact .inl ⟨h1, h2⟩
  · exact .inr ⟨h0, i, z, h1, by rw [hk i _ h1]; exact h2⟩
theorem freeL_ints (l : List Int) : freeL (l.map i64) = true := by
  induction l with
  | nil => rfl
  | cons a l ih => simp only [List.map_cons, freeL, ih, Bool.and_true]; rfl

section
variable {x : GraphV} {g : List RowV} {L : List Int} {bs : List Nat} {A : Nat → AV} {H : AHeap} {N : Nat} {fs : List Fr} {Q : Post}

/-- A block's frontier. -/
def FrB (g : List RowV) (L : List Int) (bs : List Nat) (b c : Nat) : Prop := ∃ p, DfW (Edge g) L bs b c p ∧ Edge g p c
noncomputable def frL (g : List RowV) (L : List Int) (bs : List Nat) (b : Nat) : List Nat := setL g.length (FrB g L bs b)
theorem FrB.lt (hin : InG g) {b c : Nat} (h : FrB g L bs b c) : c < g.length := by
  obtain ⟨p, _, r, h1, h2⟩ := h
  have := hin r (List.mem_of_getElem? h1) _ h2
  omega

/-- Over all blocks. -/
structure FwA (x : GraphV) (L : List Int) (bs : List Nat) (T o : Nat) (tv : AV) (k : Nat) (s : St) : Prop where
  ex : ∃ (p : Nat) (w : List (List Int)) (cs : List AV), k = x.g.length - p ∧ p ≤ x.g.length ∧ s.A 0 = x.av ∧ s.A 3 = .mp T 0 ∧ s.A 5 = .ms o 0 x.g.length 1 ∧ s.A 23 = i64 x.g.length ∧ s.A 24 = i64 p ∧ FrZ s.H s.N T o tv w cs ∧ FrW x.g L bs w (WayS x.g L bs p 0) (edges (x.g.take p))

theorem fr_all (hx : x.Ok) (hn : x.g.length ≤ 100) (he : edges x.g ≤ 10000) (hT : TreeOk x.g L bs) (hin : InG x.g) {T o : Nat} {w : List (List Int)} {cs : List AV}
    (h0 : A 0 = x.av) (h3 : A 3 = .mp T 0) (h5 : A 5 = .ms o 0 x.g.length 1) (h23 : A 23 = i64 x.g.length) (h24 : A 24 = i64 0) (hZ : FrZ H N T o (treeV x.g.length L bs) w cs) (hW : FrW x.g L bs w (WayS x.g L bs 0 0) 0)
    (hk : ∀ (A' : Nat → AV) (H' : AHeap) (N' : Nat) (w' : List (List Int)) (cs' : List AV), A' 5 = .ms o 0 x.g.length 1 → FrZ H' N' T o (treeV x.g.length L bs) w' cs' → FrW x.g L bs w' (WayS x.g L bs x.g.length 0) (edges x.g) →
      onward Try.prog fs Q (.exit 0) ⟨A', H', N'⟩) : run Try.prog (.loop a_front_Ofb4) fs Q ⟨A, H, N⟩ := by
  refine run_loop (FwA x L bs T o (treeV x.g.length L bs)) x.g.length ?_ ?_
  · exact ⟨0, w, cs, by omega, by omega, h0, h3, h5, h23, h24, hZ, by simpa [edges] using hW⟩
  · rintro k A1 H1 N1 ⟨p, w1, cs1, hk', hp, e0, e3, e5, e23, e24, hZ1, hW1⟩
    simp only at e0 e3 e5 e23 e24 hZ1
    by_cases hpl : p = x.g.length
    · subst hpl
      rw [List.take_length] at hW1
      simp [a_front_Ofb4, e23, e24]
      exact hk _ _ _ w1 cs1 (by simp [e5]) hZ1 hW1
    · have hlt : p < x.g.length := by omega
      have hr := hx.rows _ (List.getElem_mem hlt)
      have hq := row_at x hx hlt
      have hrl := row_alen _ hr
      have wr : IntKind.i64.wrap ((p : Int) + 1) = ((p + 1 : Nat) : Int) := by rw [wrap_i64 (by omega) (by omega)]; rfl
      simp [a_front_Ofb4, e0, e23, e24, hlt, hq, hrl, -alen]
      refine fr_ways (g := x.g) (r := x.g[p]) (p := p) (T := T) (o := o) hr hn he hT hin (List.getElem?_eq_getElem hlt) ?_ ?_ ?_ ?_ ?_ ?_ hZ1 hW1 ?_
      · simp [e3]
      · simp [e5]
      · simp
      · simp
      · simp
      · simp
      intro A2 H2 N2 w2 cs2 hA2 hZ2 hW2
      simp at hA2
      simp [hA2, e24, wr]
      exact ⟨x.g.length - (p + 1), by omega, ⟨p + 1, w2, cs2, rfl, by omega, by simp [hA2, e0], by simp [hA2, e3], by simp [hA2, e5], by simp [hA2, e23], by simp, hZ2, hW2⟩⟩

/-- While the rows are sorted. -/
structure SoI (n o : Nat) (w : List (List Int)) (fr : Nat → List Nat) (H0 : AHeap) (k : Nat) (s : St) : Prop where
  ex : ∃ (b : Nat) (cs : List AV), k = n - b ∧ b ≤ n ∧ s.A 5 = .ms o 0 n 1 ∧ s.A 67 = i64 n ∧ s.A 68 = i64 b ∧ s.H o = some (.blk cs) ∧ cs.length = n ∧ (∀ (k k' i n1 n2 : Nat), cs[k]? = some (.ms i 0 n1 1) → cs[k']? = some (.ms i 0 n2 1) → k = k') ∧ (∀ (k i n1 : Nat), cs[k]? = some (.ms i 0 n1 1) → o < i) ∧
    (∀ k v, k < b → cs[k]? = some v → SlAt s.H v (natI (fr k))) ∧ (∀ (k : Nat) (l : List Int) (v : AV), b ≤ k → w[k]? = some l → cs[k]? = some v → (l = [] ∧ v = .sl .nil 0 []) ∨ (l ≠ [] ∧ ∃ i, v = .ms i 0 l.length 1 ∧ s.H i = some (.blk (l.map i64)))) ∧ ∀ i, i < o → s.H i = H0 i

/-- What 'Of' hands out. -/
structure FrR (H : AHeap) (n o : Nat) (fr : Nat → List Nat) (cs : List AV) : Prop where
  at_ : H o = some (.blk cs)
  len : cs.length = n
  row : ∀ k v, cs[k]? = some v → SlAt H v (natI (fr k))
  apart : ∀ (k k' i n1 n2 : Nat), cs[k]? = some (.ms i 0 n1 1) → cs[k']? = some (.ms i 0 n2 1) → k = k'
  lo : ∀ (k i n1 : Nat), cs[k]? = some (.ms i 0 n1 1) → o < i

theorem fr_sort {n o : Nat} {w : List (List Int)} {cs : List AV} {fr : Nat → List Nat} (hn : n ≤ 100) (hw : w.length = n) (hsh : ∀ l ∈ w, l.length ≤ 100000) (hfr : ∀ (b : Nat) (l : List Int), w[b]? = some l → Lib.compact (sortL l) = natI (fr b))
    (h5 : A 5 = .ms o 0 n 1) (h67 : A 67 = i64 n) (h68 : A 68 = i64 0) (hR : RowsAt H (o + 1) o w cs)
    (hk : ∀ (A' : Nat → AV) (H' : AHeap) (N' : Nat) (cs' : List AV), A' 5 = .ms o 0 n 1 → FrR H' n o fr cs' → (∀ i, i < o → H' i = H i) → N ≤ N' → onward Try.prog fs Q (.exit 6) ⟨A', H', N'⟩) : run Try.prog (.loop a_front_Ofb1) fs Q ⟨A, H, N⟩ := by
  refine run_loop (fun k s => SoI n o w fr H k s ∧ N ≤ s.N) n ?_ ?_
  · refine ⟨⟨0, cs, by omega, by omega, h5, h67, h68, hR.at_, by rw [hR.len, hw], hR.apart, fun k i n1 hk1 => ?_, fun k v hk1 => by omega, fun k l v _ hl hv => ?_, fun _ _ => rfl⟩, Nat.le_refl _⟩
    · have hkl := (List.getElem?_eq_some_iff.1 hk1).1
      rw [hR.len] at hkl
      obtain ⟨_, ⟨_, h2, _⟩ | ⟨_, i2, h3, h2, _⟩⟩ := hR.row k _ _ (List.getElem?_eq_getElem hkl) hk1
      · cases h2
      · cases h2; omega
    · obtain ⟨_, ⟨h2, h3, _⟩ | ⟨h2, i2, _, h3, h4⟩⟩ := hR.row k l v hl hv
      · left
        cases l with
        | nil => exact ⟨rfl, h3⟩
        | cons a l => cases h2
      · right
        refine ⟨fun h => h2 (by rw [h]; rfl), i2, by rw [h3, intCells_len], by rw [← intCells_flat]; exact h4⟩
  · rintro k A1 H1 N1 ⟨⟨b, cs1, hk', hb, e5, e67, e68, hat, hcl, hap, hlo, hdone, htodo, hlow⟩, hN1⟩
    simp only at e5 e67 e68 hat hdone htodo hlow hN1
    by_cases hbn : b = n
    · subst hbn
      simp [a_front_Ofb1, e67, e68]
      refine hk _ _ _ cs1 (by simp [e5]) ⟨hat, hcl, fun k v hk1 => ?_, hap, hlo⟩ hlow hN1
      exact hdone k v (by have := (List.getElem?_eq_some_iff.1 hk1).1; omega) hk1
    · have hlt : b < n := by omega
      have hbc : b < cs1.length := by omega
      have hbw : b < w.length := by omega
      have hcb : cs1[b]? = some cs1[b] := List.getElem?_eq_getElem hbc
      have hwb : w[b]? = some w[b] := List.getElem?_eq_getElem hbw
      have hwl := hsh _ (List.getElem_mem hbw)
      have hset := hfr b _ hwb
      have ix : aindex 1 (.ms o 0 n 1) (i64 b) = some (.mp o b) := by simp [aindex, hlt]
      have wr : IntKind.i64.wrap ((b : Int) + 1) = ((b + 1 : Nat) : Int) := by rw [wrap_i64 (by omega) (by omega)]; rfl
      obtain ⟨v, hv⟩ : ∃ v, cs1[b] = v := ⟨_, rfl⟩
      rw [hv] at hcb
      have lo1 : aload H1 false 1 (.mp o b) = some v := by simp [aload, apart, hat, hcb]
      rcases htodo b _ v (Nat.le_refl _) hwb hcb with ⟨hl0, rfl⟩ | ⟨hl0, i, rfl, hi⟩
      · have hfr0 : natI (fr b) = [] := by
          rw [← hset, hl0]
          simp [sortL, Lib.compact, Lib.compactUpTo]
        have hcs : cs1.set b (.sl .nil 0 []) = cs1 := by
          apply List.ext_getElem?
          intro j
          rw [List.getElem?_set]
          split
          · rename_i hj; subst hj; simp [hbc, hv]
          · rfl
        have hst : astore H1 1 (.mp o b) (.sl .nil 0 []) = some (H1.set o (.blk cs1)) := by
          have : astore H1 1 (.mp o b) (.sl .nil 0 []) = some (H1.set o (.blk (cs1.set b (.sl .nil 0 [])))) := by simp [astore, hat, show b + 1 ≤ cs1.length by omega]
          rw [this, hcs]
        have hHH : H1.set o (.blk cs1) = H1 := by
          funext j
          simp only [AHeap.set]
          split
          · rename_i hj; rw [hj, hat]
          · rfl
        rw [hHH] at hst
        simp [a_front_Ofb1, e5, e67, e68, hlt, ix, lo1, -aload, -astore]
        refine p_Sort_nil.acall ?_
        simp [e5, ix, lo1, -aload, -astore]
        refine p_Compact_nil.acall ?_
        simp [ix, hst, e68, wr, -astore]
        refine ⟨n - (b + 1), by omega, ⟨b + 1, cs1, rfl, by omega, by simp [e5], by simp [e67], by simp, hat, hcl, hap, hlo, fun k v hkb hk1 => ?_, fun k l v hkb => htodo k l v (by omega), hlow⟩, hN1⟩
        by_cases hkk : k = b
        · subst hkk
          rw [hcb] at hk1; cases hk1
          exact .inl ⟨hfr0, rfl⟩
        · exact hdone k v (by omega) hk1
      · have hoi := hlo b i _ hcb
        have hne0 : 0 < w[b].length := by
          rcases Nat.eq_zero_or_pos w[b].length with h | h
          · exact absurd (List.eq_nil_of_length_eq_zero h) hl0
          · exact h
        have hsl : (sortL w[b]).length = w[b].length := by simp [sortL]
        have hcpl : (Lib.compact (sortL w[b])).length ≤ w[b].length := by
          have := compact_len (sortL w[b]); omega
        have hcpne : natI (fr b) ≠ [] := by
          rw [← hset]
          intro h
          have hm := (compact_sorted (sortL w[b]) (sortL_sorted _)).2
          obtain ⟨a, ha⟩ : ∃ a, a ∈ w[b] := by
            cases hw2 : w[b] with
            | nil => exact absurd hw2 hl0
            | cons a l => exact ⟨a, by simp⟩
          have := (hm a).2 ((sortL_mem _ _).2 ha)
          rw [h] at this
          simp at this
        simp [a_front_Ofb1, e5, e67, e68, hlt, ix, lo1, -aload, -astore]
        refine (a_Sort hi hne0 (by omega) N1).mono ?_
        rintro r H2 N2 ⟨rfl, hH2, hN2⟩
        rw [hH2, hN2]
        have lo2 : aload (H1.set i (.blk ((sortL w[b]).map i64))) false 1 (.mp o b) = some (.ms i 0 w[b].length 1) := by
          simp [aload, apart, show o ≠ i by omega, hat, hcb]
        simp [e5, ix, lo2, -aload, -astore]
        rw [← hsl]
        refine (a_Compact (H := H1.set i (.blk ((sortL w[b]).map i64))) (by simp) (by omega) (by omega) N1).mono ?_
        rintro r H3 N3 ⟨rfl, hH3, hN3⟩
        rw [hH3, hN3]
        obtain ⟨ds, hds⟩ : ∃ ds, ds = ((Lib.compact (sortL w[b]) ++ List.replicate ((sortL w[b]).length - (Lib.compact (sortL w[b])).length) 0).map i64 : List AV) := ⟨_, rfl⟩
        have hss : (H1.set i (.blk ((sortL w[b]).map i64))).set i (.blk ((Lib.compact (sortL w[b]) ++ List.replicate ((sortL w[b]).length - (Lib.compact (sortL w[b])).length) 0).map i64)) = H1.set i (.blk ds) := by rw [set_set, hds]
        rw [hss]
        have hst : astore (H1.set i (.blk ds)) 1 (.mp o b) (.ms i 0 (Lib.compact (sortL w[b])).length 1) = some ((H1.set i (.blk ds)).set o (.blk (cs1.set b (.ms i 0 (Lib.compact (sortL w[b])).length 1)))) := by
          simp [astore, show o ≠ i by omega, hat, show b + 1 ≤ cs1.length by omega]
        simp [ix, hst, e68, wr, -astore]
        have keepv : ∀ (k n1 : Nat) (v : AV), k ≠ b → cs1[k]? = some v → v ≠ .ms i 0 n1 1 := fun k n1 v hkb hk1 he => by
          rw [he] at hk1
          exact hkb (hap k b i n1 _ hk1 hcb)
        refine ⟨n - (b + 1), by omega, ⟨b + 1, cs1.set b (.ms i 0 (Lib.compact (sortL w[b])).length 1), rfl, by omega, by simp [e5], by simp [e67], by simp, by simp, by simp [hcl], ?_, ?_, ?_, ?_, ?_⟩, hN1⟩
        · intro k k' i' n1 n2 hk1 hk2
          have back : ∀ (k n1 : Nat), (cs1.set b (.ms i 0 (Lib.compact (sortL w[b])).length 1))[k]? = some (.ms i' 0 n1 1) → ∃ n3, cs1[k]? = some (.ms i' 0 n3 1) := fun k n1 hk1 => by
            rw [List.getElem?_set] at hk1
            by_cases hbk : b = k
            · subst hbk
              rw [if_pos rfl, if_pos hbc] at hk1
              cases hk1
              exact ⟨_, hcb⟩
            · rw [if_neg hbk] at hk1
              exact ⟨_, hk1⟩
          obtain ⟨_, q1⟩ := back k n1 hk1
          obtain ⟨_, q2⟩ := back k' n2 hk2
          exact hap k k' i' _ _ q1 q2
        · intro k i' n1 hk1
          rw [List.getElem?_set] at hk1
          by_cases hbk : b = k
          · subst hbk
            rw [if_pos rfl, if_pos hbc] at hk1
            cases hk1
            exact hoi
          · rw [if_neg hbk] at hk1
            exact hlo k i' n1 hk1
        · intro k v hkb hk1
          rw [List.getElem?_set] at hk1
          by_cases hbk : b = k
          · subst hbk
            rw [if_pos rfl, if_pos hbc] at hk1
            cases hk1
            right
            refine ⟨hcpne, i, List.replicate ((sortL w[b]).length - (Lib.compact (sortL w[b])).length) 0, by rw [← hset], ?_⟩
            rw [← hset, ← hds]
            simp [show i ≠ o by omega]
          · rw [if_neg hbk] at hk1
            refine (hdone k v (by omega) hk1).keep fun i' n1 hv1 => ?_
            have h1 : i' ≠ i := fun he => keepv k n1 v (Ne.symm hbk) hk1 (by rw [← he]; exact hv1)
            have h2 := hlo k i' n1 (by rw [hk1, hv1])
            simp [h1, show i' ≠ o by omega]
        · intro k l v hkb hl1 hk1
          have hbk : b ≠ k := by omega
          rw [List.getElem?_set, if_neg hbk] at hk1
          refine (htodo k l v (by omega) hl1 hk1).imp (fun h => h) fun ⟨h0, i', h3, h4⟩ => ⟨h0, i', h3, ?_⟩
          have h1 : i' ≠ i := fun he => keepv k _ v (Ne.symm hbk) hk1 (by rw [← he]; exact h3)
          have h2 := hlo k i' _ (by rw [hk1, h3])
          simp [h1, show i' ≠ o by omega, h4]
        · intro j hj
          simp [show j ≠ o by omega, show j ≠ i by omega]
          exact hlow j hj

end
end Go.Proofs.Ytmbbklddjkmcmaa
