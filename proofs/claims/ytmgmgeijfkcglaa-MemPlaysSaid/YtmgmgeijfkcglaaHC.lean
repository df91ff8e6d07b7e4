/- Framework, part 31: maps copied and held against each other, out of the shelf's contracts. -/
import Derived.Test.YtmgmgeijfkcglaaM5
import Derived.Shelf.SlMaps.Clone
import Derived.Shelf.SlMaps.Equal
namespace Go.Fw
set_option linter.unusedSimpArgs false
set_option linter.unusedVariables false
open Go
open Go.Maps (Keyed int_keyed keyOf_int_mk has)
open Go.WideElems (Fit rg rd rd_mk rg_of)
set_option linter.unusedSectionVars false
variable [Globals]

theorem mm_arg {e : Env} {id : Nat} {v : Value} (h : Rep e (.mm id) v) : v = .map (some (e.ρ id).1) := by
  cases h; rfl

/-- Blocks that are new, and belong to nobody. -/
theorem ptr_grown {e : Env} {w' : World} (h : e.w.grownBy w' none) : PTr e { e with w := w' } :=
  ⟨rfl, rfl, fun b hb => h.block b hb (by simp), fun _ h => h, fun _ h => .inl h, h.size, h.os, h.tape, h.output⟩

section
variable {P : Program} {f : FuncId}

/-- 'maps.Clone', out of its contract. -/
theorem mclone_acall (hg : goodFn P f = true) (hS : ∀ (b : Nat) (es : Array MapEntry) (clock : Nat) (w : World), w.heap[b]? = some (.map es clock) →
      Calls P f #[.map (some b)] w fun e w' => e = .returned (.map (some w.heap.size)) ∧ w' = w.alloc (.map es clock))
    {H : AHeap} {N id : Nat} {es : List (Value × AV)} (hH : H id = some (.map es)) :
    ACall P f [.mm id] H N (fun r H' N' => r = .mm N ∧ H' = H.set N (.map es) ∧ N' = N + 1) := by
  refine ⟨hg, fun e vs hE hN hvl hr => ?_⟩
  match vs, hvl with
  | [v], _ =>
    obtain rfl := mm_arg (hr 0 _ v rfl rfl)
    obtain ⟨h0, hI, ents, clock, hb, hs, hkeys, hvals, hst⟩ := hE.at_ id _ hH
    refine (hS _ ents clock e.w hb).mono ?_
    rintro x w' ⟨rfl, rfl⟩
    have hx := ext_allocO e (.map ents clock) hE.imm
    have hob : ORep (e.allocO (.map ents clock)) e.w.heap.size 0 (.map es) :=
      ⟨ents, clock, heap_alloc_new _ _, hs, hkeys, fun i k a y hi hy => (hvals i k a y hi hy).ext hx, hst⟩
    refine ⟨_, e.allocO (.map ents clock), .mm e.N, _, rfl, rfl, ⟨by rw [hN], rfl, by show e.N + 1 = _; rw [hN]⟩, ?_, hN ▸ hrep_allocO hE _ hob, hN ▸ tr_allocO hE _ _⟩
    have := Rep.mm (e := e.allocO (.map ents clock)) (id := e.N) (Nat.lt_succ_self _)
    simpa [Env.allocO] using this

/-- A map of whole numbers. -/
def intM (l : List (Int × Int)) : List (Value × AV) := l.map fun p => (.int .i64 p.1, i64 p.2)

def mapEq (l1 l2 : List (Int × Int)) : Bool := decide (l1.length = l2.length) && l1.all fun p => decide (p ∈ l2)

def sameD : DataW Unit → DataW Unit → Bool
  | .lit (.int _ a), .lit (.int _ b) => a == b
  | _, _ => false

def In64 (n : Int) : Prop := -9223372036854775808 ≤ n ∧ n < 9223372036854775808

theorem wf_in64 {n : Int} (h : In64 n) : (Lit.int .i64 n).wf = true := by
  obtain ⟨h1, h2⟩ := h
  simp [Lit.wf, IntKind.min, IntKind.max, IntKind.bits, IntKind.signed]
  omega

theorem neq_int {k : TypeId} (hk : P.underlying k = some (.int .i64)) (W : World) (x y : Value) (xd yd : DataW Unit) (xp yp : List MemPlace) (hx : plainElem P k x = some (xd, xp)) (hy : plainElem P k y = some (yd, yp)) :
    (binOp .neq k x y).run P W = .ok (.bool (!sameD xd yd)) W ∧ ∀ (a b : Operand), (eqGuard .neq k a b x y).run P W = .ok () W := by
  obtain ⟨a, rfl, h1, _⟩ := plainElem_int_inv hk hx
  obtain ⟨b, rfl, h2, _⟩ := plainElem_int_inv hk hy
  cases h1
  cases h2
  refine ⟨?_, fun _ _ => by rw [eqGuard_at_int]; rfl⟩
  have hh : (binOp .neq k (.int .i64 a) (.int .i64 b)).run P W = .ok (.bool (!(a == b))) W := by
    simp [go_sem, binOp]
    rfl
  exact hh

def litM (l : List (Int × Int)) : List (Lit × DataW Unit) := l.map fun p => (.int .i64 p.1, .lit (.int .i64 p.2))

theorem own_of {e : Env} {H : AHeap} (hE : HRep e H) {id : Nat} {l : List (Int × Int)} (hH : H id = some (.map (intM l))) {k : TypeId} (hk : P.underlying k = some (.int .i64)) (hr : ∀ p ∈ l, In64 p.1 ∧ In64 p.2) (hl : l.length ≤ maxLen) :
    e.w.ownsMap P k (plainElem P k) (e.ρ id).1 l.length (.map ((litM l).foldr DataW.insert [])) ∧ (l.map (·.1)).Nodup := by
  obtain ⟨h0, hI, ents, clock, hb, hs, hkeys, hvals, hst⟩ := hE.at_ id _ hH
  have hsl : ents.size = l.length := by rw [hs]; simp [intM]
  have hat : ∀ (i : Nat) (hi : i < l.length), ∃ x, ents[i]? = some x ∧ x.key = .int .i64 l[i].1 ∧ x.val = .int .i64 l[i].2 := fun i hi => by
    have hie : i < ents.size := by omega
    refine ⟨ents[i], by simp [hie], ?_, ?_⟩
    · have := hkeys i
      simp [hie, intM, hi] at this
      exact this
    · have h3 := hvals i (.int .i64 l[i].1) (i64 l[i].2) ents[i] (by simp [intM, hi]) (by simp [hie])
      generalize ents[i].val = u at h3
      cases h3
      rfl
  have hrd : ∀ (i : Nat) (hi : i < l.length) (x : MapEntry), ents[i]? = some x → rd P k (plainElem (H := Unit) P k) x = some (.int .i64 l[i].1, .lit (.int .i64 l[i].2)) := fun i hi x hx => by
    obtain ⟨y, h1, h2, h3⟩ := hat i hi
    rw [hx] at h1
    cases h1
    obtain ⟨r1, r2⟩ := hr l[i] (List.getElem_mem hi)
    simp [rd, h2, h3, keyOf_int_mk hk (wf_in64 r1), plainElem_int hk (wf_in64 r2)]
  have hmap : ents.toList.map (rg P k (plainElem P k)) = litM l := by
    apply List.ext_getElem?
    intro i
    by_cases hi : i < l.length
    · obtain ⟨y, h1, h2, h3⟩ := hat i hi
      simp [h1, litM, hi, rg_of (hrd i hi y h1)]
    · rw [List.getElem?_eq_none (by simp; omega), List.getElem?_eq_none (by simp [litM]; omega)]
  refine ⟨⟨ents, clock, hb, ⟨by omega, hst, fun x hx => ?_⟩, by omega, by rw [hmap]⟩, ?_⟩
  · obtain ⟨i, hi, rfl⟩ := List.getElem_of_mem hx
    exact ⟨_, hrd i (by simpa [hsl] using hi) _ (by simp at hi; simp [hi])⟩
  · have h3 := hst.2.2
    have hkk : ents.toList.map (·.key) = (l.map (·.1)).map (Value.int .i64) := by
      rw [ents_keys hs hkeys]
      simp [intM]
    rw [hkk] at h3
    rw [List.nodup_iff_pairwise_ne, List.pairwise_map] at h3
    rw [List.nodup_iff_pairwise_ne]
    exact h3.imp (fun {a b} h he => h (by rw [he]))

theorem equalD {l1 l2 : List (Int × Int)} (h2 : (l2.map (·.1)).Nodup) : Lib.equalFuncD sameD (.map ((litM l1).foldr DataW.insert [])) (.map ((litM l2).foldr DataW.insert [])) = mapEq l1 l2 := by
  have key : ∀ (l : List (Int × Int)) (p : Lit × DataW Unit), p ∈ (litM l).foldr DataW.insert [] ↔ p ∈ litM l := fun l p => (WideShapes.sorted_perm (litM l)).mem_iff
  have len : ∀ (l : List (Int × Int)), ((litM l).foldr DataW.insert []).length = l.length := fun l => by rw [(WideShapes.sorted_perm (litM l)).length_eq]; simp [litM]
  have hap : ((litM l2).foldr DataW.insert []).Pairwise (fun p q => p.1 ≠ q.1) := by
    refine ((WideShapes.sorted_perm (litM l2)).symm.pairwise_iff (fun {a b} (h : a.1 ≠ b.1) => h.symm)).1 ?_
    unfold litM
    rw [List.pairwise_map]
    rw [List.nodup_iff_pairwise_ne, List.pairwise_map] at h2
    exact h2.imp (fun {a b} h he => h (by simp at he; exact he))
  have good : ∀ (a b : Int), Lib.goodD sameD (.map ((litM l2).foldr DataW.insert [])) (.int .i64 a, .lit (.int .i64 b)) = decide ((a, b) ∈ l2) := fun a b => by
    unfold Lib.goodD
    by_cases hm : ∃ c, (a, c) ∈ l2
    · obtain ⟨c, hc⟩ := hm
      have hm2 : ((.int .i64 a, .lit (.int .i64 c)) : Lit × DataW Unit) ∈ (litM l2).foldr DataW.insert [] := (key l2 _).2 (List.mem_map.2 ⟨(a, c), hc, rfl⟩)
      have hat := WideAt.atKey_mem (.nil : DataW Unit) (k := .int .i64 a) (d := .lit (.int .i64 c)) trivial hap hm2
      have hh : has (.map ((litM l2).foldr DataW.insert [])) (.int .i64 a) = true := List.any_eq_true.2 ⟨_, hm2, WideAt.sameKey_self (show WideAt.IsKeyLit (Lit.int .i64 a) from trivial)⟩
      simp only [hat, hh, Bool.true_and, sameD]
      by_cases hbc : b = c
      · subst hbc; simp [hc]
      · have hnot : (a, b) ∉ l2 := fun hb => by
          have hb2 : ((.int .i64 a, .lit (.int .i64 b)) : Lit × DataW Unit) ∈ (litM l2).foldr DataW.insert [] := (key l2 _).2 (List.mem_map.2 ⟨(a, b), hb, rfl⟩)
          have hat2 := WideAt.atKey_mem (.nil : DataW Unit) (k := .int .i64 a) (d := .lit (.int .i64 b)) trivial hap hb2
          rw [hat] at hat2
          cases hat2
          exact hbc rfl
        simp [hnot, hbc]
    · have hh : has (.map ((litM l2).foldr DataW.insert [])) (.int .i64 a) = false := by
        refine List.any_eq_false.2 fun p hp hs => ?_
        obtain ⟨⟨x, y⟩, hxy, rfl⟩ := List.mem_map.1 ((key l2 p).1 hp)
        have := WideAt.sameKey_eq hs
        cases this
        exact hm ⟨y, hxy⟩
      have hnot : (a, b) ∉ l2 := fun hb => hm ⟨b, hb⟩
      simp [hh, hnot]
  unfold Lib.equalFuncD mapEq
  simp only [Maps.size, len, Lib.entriesD]
  congr 1
  have hperm : ∀ (E E' : List (Lit × DataW Unit)) (g : Lit × DataW Unit → Bool), E.Perm E' → E.all g = E'.all g := fun E E' g hp => by
    rw [Bool.eq_iff_iff, List.all_eq_true, List.all_eq_true]
    exact ⟨fun h x hx => h x (hp.mem_iff.2 hx), fun h x hx => h x (hp.mem_iff.1 hx)⟩
  rw [hperm _ _ _ (WideShapes.sorted_perm (litM l1))]
  unfold litM
  rw [List.all_map]
  congr 1
  funext p
  exact good p.1 p.2

/-- 'maps.Equal', out of its contract. -/
theorem mequal_acall (hg : goodFn P f = true) {k : TypeId} (hk : P.underlying k = some (.int .i64)) (hz : ∀ w, (zeroValue k).run P w = .ok (.int .i64 0) w)
    (hS : ∀ (R1 R2 : Value → Option (DataW Unit × List MemPlace)) (eqd : DataW Unit → DataW Unit → Bool) (b1 b2 n1 n2 : Nat) (D1 D2 : DataW Unit) (w : World), w.ownsMap P k R1 b1 n1 D1 → w.ownsMap P k R2 b2 n2 D2 →
      ∀ (z2 : Value), (∀ w, (zeroValue k).run P w = .ok z2 w) → ∀ (zd : DataW Unit) (zp : List MemPlace), R2 z2 = some (zd, zp) →
      (∀ (W : World) (x y : Value) (xd yd : DataW Unit) (xp yp : List MemPlace), R1 x = some (xd, xp) → R2 y = some (yd, yp) → (binOp .neq k x y).run P W = .ok (.bool (!eqd xd yd)) W ∧ ∀ (a b : Operand), (eqGuard .neq k a b x y).run P W = .ok () W) →
      Calls P f #[.map (some b1), .map (some b2)] w fun e w' => e = .returned (.bool (Lib.equalFuncD eqd D1 D2)) ∧ w.grownBy w' none)
    {H : AHeap} {N i j : Nat} {l1 l2 : List (Int × Int)} (h1 : H i = some (.map (intM l1))) (h2 : H j = some (.map (intM l2))) (r1 : ∀ p ∈ l1, In64 p.1 ∧ In64 p.2) (r2 : ∀ p ∈ l2, In64 p.1 ∧ In64 p.2)
    (s1 : l1.length ≤ maxLen) (s2 : l2.length ≤ maxLen) : ACall P f [.mm i, .mm j] H N (fun r H' N' => r = bl (mapEq l1 l2) ∧ H' = H ∧ N' = N) := by
  refine ⟨hg, fun e vs hE hN hvl hr => ?_⟩
  match vs, hvl with
  | [v, u], _ =>
    obtain rfl := mm_arg (hr 0 _ v rfl rfl)
    obtain rfl := mm_arg (hr 1 _ u rfl rfl)
    obtain ⟨o1, _⟩ := own_of hE h1 hk r1 s1
    obtain ⟨o2, d2⟩ := own_of hE h2 hk r2 s2
    refine (hS _ _ sameD _ _ _ _ _ _ e.w o1 o2 (.int .i64 0) hz (.lit (.int .i64 0)) [] (plainElem_int hk (by decide)) (neq_int hk)).mono ?_
    rintro x w' ⟨rfl, hgr⟩
    have hp := ptr_grown hgr
    exact ⟨_, { e with w := w' }, bl (mapEq l1 l2), H, rfl, rfl, ⟨rfl, rfl, hN⟩, by rw [equalD d2]; exact .lit _, hp.hrep hE, hp.tr hE⟩

end
end Go.Fw
