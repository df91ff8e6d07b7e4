/- dom: kids, and the order. -/
import Derived.Test.YtmbbklddjkmcmaaAB
import Derived.Test.YtmbbklddjkmcmaaD4
import Derived.Test.YtmbbklddjkmcmaaK2
namespace Go.Proofs.Ytmbbklddjkmcmaa
set_option linter.unusedSimpArgs false
set_option linter.unusedVariables false
open Go Go.Fw Go.Dm

/-- Those whose next one above is b, of the first j. -/
def kidsJ (L : List Int) (j : Nat) (b : Int) : List Nat := (List.range j).filter fun c => decide (L[c]? = some b)
def kidsL (L : List Int) (b : Nat) : List Nat := kidsJ L L.length b
def kidsI (L : List Int) (bs : List Nat) (b : Int) : List Nat := if rchI bs b = true then kidsJ L L.length b else []

theorem kidsJ_next {L : List Int} {j : Nat} {b : Int} : kidsJ L (j + 1) b = kidsJ L j b ++ (if L[j]? = some b then [j] else []) := by
  unfold kidsJ
  rw [List.range_succ, List.filter_append]
  congr 1
  by_cases h : L[j]? = some b <;> simp [h]
theorem kidsJ_len {L : List Int} {j : Nat} {b : Int} : (kidsJ L j b).length ≤ j := by
  have := List.length_filter_le (fun c => decide (L[c]? = some b)) (List.range j)
  simpa [kidsJ] using this

section
variable {g : List RowV} {L : List Int} {bs : List Nat} {b : Nat}

theorem len_ints (l : List Int) : alen 1 (.sl .any 1 (intCells l)) = some (l.length : Int) := by
  have := (RdSl.sl (H := noHeap) (sz := 1) (es := intCells l) .any).len
  rw [intCells_len] at this
  exact this
theorem at_ints {l : List Int} {i : Nat} (h : i < l.length) : aindex 1 (.sl .any 1 (intCells l)) (i64 i) = some (.ip [i64 l[i]] 0) := by
  refine aindex_sl (by omega) ?_
  simp [intCells, h]

/-- Where Kids stands. -/
structure KidI (L : List Int) (b : Int) (H : AHeap) (N k : Nat) (s : St) : Prop where
  ex : ∃ (j : Nat) (v : AV), j ≤ L.length ∧ k = L.length - j ∧ s.A 1 = i64 b ∧ s.A 5 = v ∧ s.A 15 = .sl .any 1 (intCells L) ∧ s.A 16 = i64 L.length ∧ s.A 17 = i64 j ∧ N ≤ s.N ∧ Fresh s.H s.N ∧ (∀ i, i < N → s.H i = H i) ∧ Built s.H N 1 (.sl .nil 0 []) (intCells (natI (kidsJ L j b))) v

theorem a_Kids (h : TreeOk g L bs) (hn : g.length ≤ 32768) (b : Int) (H : AHeap) (N : Nat) :
    ACall Try.prog 24 [treeV g.length L bs, i64 b] H N (fun r H' N' => N ≤ N' ∧ (∀ i, i < N → H' i = H i) ∧ Built H' N 1 (.sl .nil 0 []) (intCells (natI (kidsI L bs b))) r) := by
  refine acallF mixed c_dom_Tree_Kids (by simp) fun hF => ?_
  simp [a_dom_Tree_Kids]
  refine (p_Reached h b).acall ?_
  by_cases hr : rchI bs b = true
  · simp [hr, treeV, len_ints, -alen]
    have hll := h.ll
    refine run_loop (KidI L b H N) L.length ?_ ?_
    · exact ⟨0, .sl .nil 0 [], by omega, by omega, by simp, by simp, by simp, by simp, by simp, Nat.le_refl _, hF, fun _ _ => rfl, Built.nil⟩
    · rintro k A H1 N1 ⟨j, v, hj, rfl, e1, e5, e15, e16, e17, hN1, hF1, hold, hB⟩
      simp only at e1 e5 e15 e16 e17 hN1 hF1 hold hB
      by_cases hjl : j = L.length
      · subst hjl
        simp [a_dom_Tree_Kidsb1, e16, e17, e5]
        exact ⟨hN1, hold, by unfold kidsI; rw [if_pos hr]; exact hB⟩
      · have hlt : j < L.length := by omega
        have hq := at_ints hlt
        have hLj : L[j]? = some L[j] := List.getElem?_eq_getElem hlt
        have wr : IntKind.i64.wrap ((j : Int) + 1) = ((j + 1 : Nat) : Int) := by rw [wrap_i64 (by omega) (by omega)]; rfl
        by_cases hb : L[j] = b
        · have hkl := kidsJ_len (L := L) (j := j) (b := b)
          have hnext : natI (kidsJ L j b) ++ [(j : Int)] = natI (kidsJ L (j + 1) b) := by
            rw [kidsJ_next, if_pos (by rw [hLj, hb]), natI_app]; rfl
          obtain ⟨v', H2, N2, happ, hB2, hold2, hN2, hF2⟩ := app_ints (ns := [(j : Int)]) hB hF1 hN1 (asrc_one H1 (j : Int)) (by rw [natI_len]; simp; omega)
          rw [hnext] at hB2
          simp [a_dom_Tree_Kidsb1, e1, e5, e15, e16, e17, hlt, hq, hb, happ, wr]
          exact ⟨L.length - (j + 1), by omega, ⟨j + 1, v', by omega, rfl, by simp [e1], by simp, by simp [e15], by simp [e16], by simp, Nat.le_trans hN1 hN2, hF2, fun i hi => (hold2 i hi).trans (hold i hi), hB2⟩⟩
        · have hnext : natI (kidsJ L j b) = natI (kidsJ L (j + 1) b) := by
            rw [kidsJ_next, if_neg (by rw [hLj]; intro h; exact hb (Option.some.inj h)), List.append_nil]
          rw [hnext] at hB
          simp [a_dom_Tree_Kidsb1, e1, e15, e16, e17, hlt, hq, hb, wr]
          exact ⟨L.length - (j + 1), by omega, ⟨j + 1, v, by omega, rfl, by simp [e1], by simp [e5], by simp [e15], by simp [e16], by simp, by omega, hF1, hold, hB⟩⟩
  · simp [hr]
    unfold kidsI
    rw [if_neg hr]
    exact Built.nil

/-- The kids of all, of the first j. -/
def rowsJ (L : List Int) (j : Nat) : List (List Int) := (List.range L.length).map fun (x : Nat) => natI (kidsJ L j x)
theorem rowsJ_len {j : Nat} : (rowsJ L j).length = L.length := by simp [rowsJ]
theorem rowsJ_at {j x : Nat} (hx : x < L.length) : (rowsJ L j)[x]? = some (natI (kidsJ L j x)) := by simp [rowsJ, hx]
theorem rowsJ_zero : rowsJ L 0 = List.replicate L.length [] := by
  apply List.ext_getElem?
  intro i
  by_cases hi : i < L.length
  · rw [rowsJ_at hi]; simp [hi, kidsJ, natI]
  · simp [rowsJ, hi]
theorem rowsJ_skip {j : Nat} (h : L[j]? = some (-1)) : rowsJ L (j + 1) = rowsJ L j := by
  unfold rowsJ
  apply List.map_congr_left
  intro x _
  rw [kidsJ_next, if_neg (by rw [h]; intro h; have := Option.some.inj h; omega), List.append_nil]
theorem rowsJ_push {j d : Nat} (h : L[j]? = some (d : Int)) (hd : d < L.length) : (rowsJ L j).set d (natI (kidsJ L j d) ++ [(j : Int)]) = rowsJ L (j + 1) := by
  apply List.ext_getElem?
  intro i
  rw [List.getElem?_set]
  by_cases hi : d = i
  · subst hi
    rw [if_pos rfl, if_pos (by rw [rowsJ_len]; exact hd), rowsJ_at hd, kidsJ_next, if_pos h, natI_app]
    rfl
  · rw [if_neg hi]
    by_cases hil : i < L.length
    · rw [rowsJ_at hil, rowsJ_at hil, kidsJ_next, if_neg (by rw [h]; intro h; have := Option.some.inj h; omega), List.append_nil]
    · simp [rowsJ, hil]

/-- The kids' rows, that are only read. -/
structure KAt (H : AHeap) (o kb p : Nat) (w : List (List Int)) (cs : List AV) : Prop where
  at_ : H o = some (.blk cs)
  box : H kb = some (.blk [.ms o 0 w.length 1])
  len : cs.length = w.length
  op : o < p
  kp : kb < p
  row : ∀ (c : Nat) (l : List Int) (a : AV), w[c]? = some l → cs[c]? = some a → (l = [] ∧ a = .sl .nil 0 []) ∨ (∃ id, id < p ∧ a = .ms id 0 l.length 1 ∧ H id = some (.blk (intCells l).flatten))

theorem KAt.keep {H H' : AHeap} {o kb p : Nat} {w : List (List Int)} {cs : List AV} (h : KAt H o kb p w cs) (hk : ∀ j, j < p → H' j = H j) : KAt H' o kb p w cs where
  at_ := by rw [hk o h.op]; exact h.at_
  box := by rw [hk kb h.kp]; exact h.box
  len := h.len
  op := h.op
  kp := h.kp
  row := fun c l a h1 h2 => (h.row c l a h1 h2).imp id fun ⟨id, h3, h4, h5⟩ => ⟨id, h3, h4, by rw [hk id h3]; exact h5⟩

theorem KAt.rd {H : AHeap} {o kb p : Nat} {w : List (List Int)} {cs : List AV} (h : KAt H o kb p w cs) {c : Nat} {l : List Int} {a : AV} (h1 : w[c]? = some l) (h2 : cs[c]? = some a) : RdSl H 1 (intCells l) a := by
  rcases h.row c l a h1 h2 with ⟨rfl, rfl⟩ | ⟨id, _, rfl, h3⟩
  · exact .nil _ _
  · have := RdSl.ms (H := H) (sz := 1) (es := intCells l) h3 (by rw [flatten_len (intCells_sz l)])
    rw [intCells_len] at this
    exact this

/-- While one goes over the tree. -/
structure VAt (H : AHeap) (o kb ob : Nat) (w : List (List Int)) (cs : List AV) (out : List Int) : Prop where
  k : KAt H o kb ob w cs
  vb : H (ob + 1) = some (.blk [.fn (.func 44) [] [.mp ob 0, .mp kb 0, .mp (ob + 1) 0]])
  out : ∃ v, H ob = some (.blk [v]) ∧ Built H (ob + 2) 1 (.sl .nil 0 []) (intCells out) v

/-- Where the visit of a block stands. -/
structure VisI (L : List Int) (o kb ob m b N : Nat) (w : List (List Int)) (cs : List AV) (out : List Int) (a : AV) (H : AHeap) (k : Nat) (s : St) : Prop where
  ex : ∃ i, i ≤ (kidsL L b).length ∧ k = (kidsL L b).length - i ∧ s.A 3 = .mp (ob + 1) 0 ∧ s.A 14 = a ∧ s.A 15 = i64 (kidsL L b).length ∧ s.A 16 = i64 i ∧ N ≤ s.N ∧ Fresh s.H s.N ∧ (∀ j, j < ob → s.H j = H j) ∧
    VAt s.H o kb ob w cs (out ++ natI (b :: ((kidsL L b).take i).flatMap (pre (kidsL L) m)))

theorem kids_ok (h : TreeOk g L bs) : KidsOk (Edge g) (nxOf L) (kidsL L) where
  mem := fun b c => by
    unfold kidsL kidsJ
    simp only [List.mem_filter, List.mem_range, decide_eq_true_eq]
    constructor
    · rintro ⟨_, h2⟩; unfold nxOf; rw [h2]; simp
    · intro h2
      have := nxOf_some h2
      exact ⟨(List.getElem?_eq_some_iff.1 this).1, this⟩
  nodup := fun b => List.nodup_range.filter _
  un := h.un

theorem kid_of (h : TreeOk g L bs) {b c : Nat} (hc : c ∈ kidsL L b) : Rch (Edge g) c ∧ bs.idxOf b < bs.idxOf c ∧ b < g.length := by
  have hc' := ((kids_ok h).mem b c).1 hc
  have hrc := (kids_ok h).rch hc'
  have := h.sol.fit.dn c b hrc hc'
  exact ⟨hrc, this.2.1, h.row.lt b ((h.row.mem b).2 this.1)⟩

theorem a_ord (h : TreeOk g L bs) (hn : g.length ≤ 32768) (o kb ob : Nat) (cs : List AV) : ∀ (m b : Nat) (out : List Int) (H : AHeap) (N : Nat), VAt H o kb ob (rowsJ L L.length) cs out → ob + 2 ≤ N → out.length + (pre (kidsL L) m b).length ≤ 1000000 →
    b ∈ bs → bs.length ≤ bs.idxOf b + m →
    ACall Try.prog 44 [i64 b, .mp ob 0, .mp kb 0, .mp (ob + 1) 0] H N (fun _ H' N' => N ≤ N' ∧ (∀ j, j < ob → H' j = H j) ∧ VAt H' o kb ob (rowsJ L L.length) cs (out ++ natI (pre (kidsL L) m b)))
  | 0, b, out, H, N, hV, hN, hlen, hb, hm => by
    have := List.idxOf_lt_length_iff.2 hb
    omega
  | m + 1, b, out, H, N, hV, hN, hlen, hb, hm => by
    refine acallF mixed c_dom_Tree_Order_1 (by simp) fun hF => ?_
    have hll := h.ll
    have hbL : b < L.length := by rw [hll]; exact h.row.lt b hb
    obtain ⟨v, hv, hB⟩ := hV.out
    have hK := hV.k
    have hkb := hK.box
    rw [rowsJ_len] at hkb
    have hpl : (pre (kidsL L) (m + 1) b).length = 1 + ((kidsL L b).flatMap (pre (kidsL L) m)).length := by simp [pre]; omega
    obtain ⟨v', H1, N1, happ, hB1, hold1, hN1, hF1⟩ := app_ints (ns := [(b : Int)]) hB hF (by omega) (asrc_one H (b : Int)) (by simp; omega)
    have hix : aindex 1 (.ms o 0 L.length 1) (i64 b) = some (.mp o b) := by simp [aindex, hbL]
    have hvc : v'.cells = some [v'] := hB1.rd.cells
    have e1 : H1 ob = some (.blk [v]) := (hold1 ob (by omega)).trans hv
    have hon : o ≠ ob := by have := hK.op; omega
    have hkn : kb ≠ ob := by have := hK.kp; omega
    have e2 : H1 kb = some (.blk [.ms o 0 L.length 1]) := (hold1 kb (by have := hK.kp; omega)).trans hkb
    have e3 : H1 o = some (.blk cs) := (hold1 o (by have := hK.op; omega)).trans hK.at_
    have hcb : b < cs.length := by rw [hK.len, rowsJ_len]; exact hbL
    have hca : cs[b]? = some cs[b] := List.getElem?_eq_getElem hcb
    have hwb := rowsJ_at (L := L) (j := L.length) hbL
    have hrd := hK.rd hwb hca
    have hla := hrd.len
    rw [intCells_len, natI_len] at hla
    have hld : aload H false 1 (.mp ob 0) = some v := by simp [aload, apart, hv]
    have hst : astore H1 1 (.mp ob 0) v' = some (H1.set ob (.blk [v'])) := by simp [astore, e1, hvc, -AV.cells]
    have hld2 : aload (H1.set ob (.blk [v'])) false 1 (.mp kb 0) = some (.ms o 0 L.length 1) := by simp [aload, apart, hkn, e2]
    have hld3 : aload (H1.set ob (.blk [v'])) false 1 (.mp o b) = some cs[b] := by simp [aload, apart, hon, e3, hcb]
    change alen 1 cs[b] = some (((kidsL L b).length : Nat) : Int) at hla
    obtain ⟨a, ha⟩ : ∃ a, cs[b] = a := ⟨_, rfl⟩
    rw [ha] at hla hld3 hrd hca
    simp [a_dom_Tree_Order_1, hld, happ, hst, hld2, hix, hld3, hla, -aload, -alen, -astore]
    refine run_loop (VisI L o kb ob m b N (rowsJ L L.length) cs out a H) (kidsL L b).length ?_ ?_
    · have hset : ∀ j, j ≠ ob → (H1.set ob (.blk [v'])) j = H1 j := fun j hj => by simp [AHeap.set, hj]
      have hlow : ∀ j, j < ob → (H1.set ob (.blk [v'])) j = H j := fun j hj => (hset j (by omega)).trans (hold1 j (by omega))
      refine ⟨0, by omega, by omega, by simp, by simp, by simp, by simp, hN1, fun id (hid : N1 ≤ id) => (hset id (by omega)).trans (hF1 id hid), hlow, hK.keep hlow, ?_, v', by simp, ?_⟩
      · exact ((hset (ob + 1) (by omega)).trans (hold1 (ob + 1) (by omega))).trans hV.vb
      · exact hB1.keep fun j hj => hset j (by omega)
    · rintro k A H2 N2 ⟨i, hi, rfl, g3, g14, g15, g16, hN2, hF2, hold2, hV2⟩
      simp only at g3 g14 g15 g16 hN2 hF2 hold2 hV2
      by_cases hil : i = (kidsL L b).length
      · subst hil
        simp [a_dom_Tree_Order_1b1, g15, g16]
        rw [List.take_length] at hV2
        exact ⟨hN2, hold2, hV2⟩
      · have hlt : i < (kidsL L b).length := by omega
        obtain ⟨c, hc⟩ : ∃ c, (kidsL L b)[i]? = some c := ⟨_, List.getElem?_eq_getElem hlt⟩
        have hcm := List.mem_of_getElem? hc
        obtain ⟨hrc, hlc, _⟩ := kid_of h hcm
        have hcb2 : c ∈ bs := (h.row.mem c).2 hrc
        have hrd2 := hV2.k.rd hwb hca
        have hcell : (intCells (natI (kidsJ L L.length b)))[i]? = some [i64 c] := by
          change (kidsJ L L.length b)[i]? = some c at hc
          simp [intCells, natI, hc]
        obtain ⟨p, hp, hpt⟩ := hrd2.at (intCells_sz _) hcell
        have hvb := hV2.vb
        have hvl : aload H2 false 1 (.mp (ob + 1) 0) = some (.fn (.func 44) [] [.mp ob 0, .mp kb 0, .mp (ob + 1) 0]) := by simp [aload, apart, hvb]
        have wr : IntKind.i64.wrap ((i : Int) + 1) = ((i + 1 : Nat) : Int) := by
          have := kidsJ_len (L := L) (j := L.length) (b := b)
          change (kidsL L b).length ≤ _ at this
          rw [wrap_i64 (by omega) (by omega)]; rfl
        have hsplit : (kidsL L b).take (i + 1) = (kidsL L b).take i ++ [c] := by
          rw [List.take_add_one, hc]; rfl
        have hfl : (out ++ natI (b :: ((kidsL L b).take i).flatMap (pre (kidsL L) m))) ++ natI (pre (kidsL L) m c) = out ++ natI (b :: ((kidsL L b).take (i + 1)).flatMap (pre (kidsL L) m)) := by
          rw [hsplit, List.flatMap_append, List.append_assoc, ← natI_app]
          simp
        have hcount : (((kidsL L b).take (i + 1)).flatMap (pre (kidsL L) m)).length ≤ ((kidsL L b).flatMap (pre (kidsL L) m)).length := by
          have h1 : (kidsL L b).flatMap (pre (kidsL L) m) = ((kidsL L b).take (i + 1)).flatMap (pre (kidsL L) m) ++ ((kidsL L b).drop (i + 1)).flatMap (pre (kidsL L) m) := by
            rw [← List.flatMap_append, List.take_append_drop]
          rw [h1, List.length_append]; omega
        have hlen2 : (out ++ natI (b :: ((kidsL L b).take i).flatMap (pre (kidsL L) m))).length + (pre (kidsL L) m c).length ≤ 1000000 := by
          have := congrArg List.length hfl
          simp only [List.length_append, natI_len, List.length_cons] at this ⊢
          omega
        simp [a_dom_Tree_Order_1b1, g3, g14, g15, g16, hlt, hp, hpt.one, hvl, -aload]
        refine (a_ord h hn o kb ob cs m c _ H2 N2 hV2 (by omega) hlen2 hcb2 (by omega)).monoF ?_
        rintro r H3 N3 ⟨hN3, hold3, hV3⟩ hF3 _
        rw [hfl] at hV3
        simp [g16, wr]
        exact ⟨(kidsL L b).length - (i + 1), by omega, ⟨i + 1, by omega, rfl, by simp [g3], by simp [g14], by simp [g15], by simp, Nat.le_trans hN2 hN3, hF3, fun j hj => (hold3 j hj).trans (hold2 j hj), hV3⟩⟩

/-- All that are reached, in their order. -/
def orderL (L : List Int) (bs : List Nat) : List Nat := pre (kidsL L) bs.length 0

theorem row_pl (h : TreeOk g L bs) : ∀ x, Rch (Edge g) x → bs.idxOf x < bs.length := fun x hx => List.idxOf_lt_length_iff.2 ((h.row.mem x).2 hx)
theorem row_len (h : TreeOk g L bs) : bs.length ≤ g.length := by
  have := List.Nodup.length_le_of_subset (l₂ := List.range g.length) h.row.nodup (fun x hx => List.mem_range.2 (h.row.lt x hx))
  simpa using this

theorem order_mem (h : TreeOk g L bs) (x : Nat) : x ∈ orderL L bs ↔ Rch (Edge g) x := by
  unfold orderL
  rw [pre_mem (pl := fun b => bs.idxOf b) h.sol.fit (kids_ok h) (row_pl h) bs.length 0 .zero (by omega) x]
  constructor
  · intro hu; exact below_rch (kids_ok h) .zero hu
  · intro hx
    rw [h.sol.dom x 0 hx]
    intro hav
    induction hav with
    | zero hc => exact hc rfl
    | step h1 _ _ ih => exact ih h1.rch

theorem order_nodup (h : TreeOk g L bs) : (orderL L bs).Nodup := by
  obtain ⟨pr, ho⟩ := h.row.ord
  exact pre_nodup (pl := fun b => bs.idxOf b) h.sol.fit (kids_ok h) (row_pl h) ho.inj bs.length 0 .zero (by omega)

theorem order_len (h : TreeOk g L bs) : (orderL L bs).length = bs.length := by
  have h1 := List.Nodup.length_le_of_subset (l₂ := bs) (order_nodup h) (fun x hx => (h.row.mem x).2 ((order_mem h x).1 hx))
  have h2 := List.Nodup.length_le_of_subset (l₂ := orderL L bs) h.row.nodup (fun x hx => (order_mem h x).2 ((h.row.mem x).1 hx))
  omega

theorem spare_of {H : AHeap} {lo kb N : Nat} {es : List (List AV)} {a : AV} (hB : Built H lo 1 (.sl .nil 0 []) es a) (h1 : kb < lo) (h2 : lo ≤ N) : spareOk N (.mp kb 0) a = true := by
  obtain ⟨_, ⟨_, rfl, _⟩ | ⟨_, id, hid, rfl, _⟩⟩ := hB
  · simp [spareOk]; omega
  · simp [spareOk]; omega

theorem k_of {H : AHeap} {lo o N : Nat} {w : List (List Int)} {cs : List AV} (h : RowsAt H lo o w cs) (hF : Fresh H N) (kb : Nat) (hk : kb < N) (hkb : H kb = some (.blk [.ms o 0 w.length 1])) : KAt H o kb N w cs where
  at_ := h.at_
  box := hkb
  len := h.len
  op := hF.lt h.at_
  kp := hk
  row := fun c l a h1 h2 => by
    obtain ⟨_, ⟨h3, rfl, _⟩ | ⟨_, id, _, rfl, h4⟩⟩ := h.row c l a h1 h2
    · left
      cases l with
      | nil => exact ⟨rfl, rfl⟩
      | cons x l => cases h3
    · right
      exact ⟨id, hF.lt h4, by rw [intCells_len], h4⟩

theorem Built.lower {H : AHeap} {lo lo' sz : Nat} {z : AV} {es : List (List AV)} {v : AV} (h : Built H lo sz z es v) (hl : lo' ≤ lo) : Built H lo' sz z es v := by
  obtain ⟨h1, h2⟩ := h
  refine ⟨h1, h2.imp id ?_⟩
  rintro ⟨h3, id, h4, h5⟩
  exact ⟨h3, id, by omega, h5⟩

/-- Where Order's first loop stands. -/
structure OrdI (L : List Int) (H : AHeap) (N k : Nat) (s : St) : Prop where
  ex : ∃ (j : Nat) (cs : List AV), j ≤ L.length ∧ k = L.length - j ∧ s.A 3 = .mp (N + 1) 0 ∧ s.A 19 = .sl .any 1 (intCells L) ∧ s.A 20 = i64 L.length ∧ s.A 21 = i64 j ∧ N + 2 ≤ s.N ∧ Fresh s.H s.N ∧ (∀ i, i < N → s.H i = H i) ∧
    s.H (N + 1) = some (.blk [.ms N 0 L.length 1]) ∧ RowsAt s.H (N + 2) N (rowsJ L j) cs

theorem a_Order (h : TreeOk g L bs) (hn : g.length ≤ 32768) (H : AHeap) (N : Nat) :
    ACall Try.prog 19 [treeV g.length L bs] H N (fun r H' N' => N ≤ N' ∧ (∀ i, i < N → H' i = H i) ∧ Built H' N 1 (.sl .nil 0 []) (intCells (natI (orderL L bs))) r) := by
  refine acallF mixed c_dom_Tree_Order (by simp) fun hF => ?_
  have hll := h.ll
  have hmk : amake 1 24 [.sl .nil 0 []] (i64 L.length) (i64 L.length) = some (L.length, L.length) := by
    simp [amake]; omega
  obtain ⟨M, hM⟩ : ∃ M, M = List.replicate L.length (AV.sl .nil 0 []) := ⟨_, rfl⟩
  have hrep : (List.replicate L.length [AV.sl .nil 0 []]).flatten = M := by rw [hM]; simp
  simp [a_dom_Tree_Order, treeV, len_ints, hmk, hrep, -alen]
  refine run_loop (OrdI L H N) L.length ?_ ?_
  · refine ⟨0, M, by omega, by omega, by simp, by simp, by simp, by simp, Nat.le_refl _, ?_, fun i hi => ?_, by simp, ?_⟩
    · intro i (hi : N + 1 + 1 ≤ i)
      simp [show i ≠ N by omega, show i ≠ N + 1 by omega, hF i (by omega)]
    · simp [show i ≠ N by omega, show i ≠ N + 1 by omega]
    · rw [rowsJ_zero, hM]
      exact RowsAt.start _ (by simp [show N ≠ N + 1 by omega]) (by omega)
  · rintro k A H1 N1 ⟨j, cs, hj, rfl, e3, e19, e20, e21, hN1, hF1, hold, hkb, hR⟩
    simp only at e3 e19 e20 e21 hN1 hF1 hold hkb hR
    by_cases hjl : j = L.length
    · subst hjl
      have hK := k_of hR hF1 (N + 1) (by omega) (by rw [rowsJ_len]; exact hkb)
      simp [a_dom_Tree_Orderb1, e3, e20, e21]
      have hlow : ∀ i, i < N1 → (((H1.set N1 (.blk [.sl .nil 0 []])).set (N1 + 1) (.blk [.fn (.func 44) [] [.mp N1 0, .mp (N + 1) 0, .mp (N1 + 1) 0]])) i) = H1 i := fun i hi => by
        simp [show i ≠ N1 by omega, show i ≠ N1 + 1 by omega]
      have hV : VAt ((H1.set N1 (.blk [.sl .nil 0 []])).set (N1 + 1) (.blk [.fn (.func 44) [] [.mp N1 0, .mp (N + 1) 0, .mp (N1 + 1) 0]])) N (N + 1) N1 (rowsJ L L.length) cs [] := by
        refine ⟨hK.keep hlow, by simp, .sl .nil 0 [], by simp [show N1 ≠ N1 + 1 by omega], Built.nil⟩
      have hol := order_len h
      have hrl := row_len h
      refine (a_ord h hn N (N + 1) N1 cs bs.length 0 [] _ (N1 + 1 + 1) hV (by omega) (by unfold orderL at hol; rw [hol]; simp; omega) ((h.row.mem 0).2 .zero) (by omega)).monoF ?_
      rintro r H2 N2 ⟨hN2, hold2, hV2⟩ hF2 _
      obtain ⟨v, hv, hB⟩ := hV2.out
      simp [hv]
      refine ⟨by omega, fun i hi => ?_, ?_⟩
      · rw [hold2 i (by omega), hlow i (by omega), hold i hi]
      · rw [List.nil_append] at hB
        exact Built.lower hB (by omega)
    · have hlt : j < L.length := by omega
      have hq := at_ints hlt
      have wr : IntKind.i64.wrap ((j : Int) + 1) = ((j + 1 : Nat) : Int) := by rw [wrap_i64 (by omega) (by omega)]; rfl
      have hg : L[j]? = some L[j] := List.getElem?_eq_getElem hlt
      rcases h.nx (x := j) (by omega) with ⟨h1, h2⟩ | ⟨d, h1, h2⟩
      · have hLj : L[j] = -1 := Option.some.inj (hg.symm.trans h1)
        rw [← rowsJ_skip h1] at hR
        rw [hLj] at hq
        simp [a_dom_Tree_Orderb1, e19, e20, e21, hlt, hq, wr]
        exact ⟨L.length - (j + 1), by omega, ⟨j + 1, cs, by omega, rfl, by simp [e3], by simp [e19], by simp [e20], by simp, hN1, hF1, hold, hkb, hR⟩⟩
      · have hLj : L[j] = (d : Int) := Option.some.inj (hg.symm.trans h1)
        rw [hLj] at hq
        have hrj : Rch (Edge g) j := (kids_ok h).rch h2
        have hrd := (h.sol.fit.dn j d hrj h2).1
        have hdL : d < L.length := by rw [hll]; exact h.row.lt d ((h.row.mem d).2 hrd)
        have hkl := kidsJ_len (L := L) (j := j) (b := d)
        obtain ⟨a, H3, hca, hac, happ, hH3, hlow, hF3, hR3⟩ := hR.push hF1 hN1 (rowsJ_at hdL) (by rw [natI_len]; omega) (j : Int)
        rw [rowsJ_push h1 hdL] at hR3
        have hsp := spare_of (N := N1) (kb := N + 1) (hR.row d _ a (rowsJ_at hdL) hca) (by omega) hN1
        have hix : aindex 1 (.ms N 0 L.length 1) (i64 d) = some (.mp N d) := by simp [aindex, hdL]
        have hat := hR.at_
        have hcl : d + 1 ≤ cs.length := by rw [hR.len, rowsJ_len]; omega
        have d0 : decide ((0 : Int) ≤ (d : Int)) = true := decide_eq_true (by omega)
        rw [natI_len] at happ hR3
        simp [a_dom_Tree_Orderb1, e3, e19, e20, e21, hlt, hq, wr, hkb, hix, hat, hca, hsp, happ, hH3, hcl]
        refine ⟨L.length - (j + 1), by omega, ⟨j + 1, _, by omega, rfl, by simp [e3], by simp [e19], by simp [e20], by simp, Nat.le_trans hN1 (Nat.le_succ _), ?_, ?_, ?_, hR3⟩⟩
        · intro i (hi : N1 + 1 ≤ i)
          simp [show i ≠ N by omega, hF3 i hi]
        · intro i hi
          simp [show i ≠ N by omega]
          rw [hlow i (by omega), hold i hi]
        · simp [show N + 1 ≠ N by omega]
          rw [hlow (N + 1) (by omega), hkb]

end
end Go.Proofs.Ytmbbklddjkmcmaa
