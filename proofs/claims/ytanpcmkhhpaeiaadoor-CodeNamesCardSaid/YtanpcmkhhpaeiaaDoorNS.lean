/- code: pieces of the law CodeSame. -/
import Derived.Test.YtanpcmkhhpaeiaaDoorNQ
import Derived.Test.YtanpcmkhhpaeiaaDoorK5
namespace Go.Proofs.YtanpcmkhhpaeiaaDoor
set_option linter.unusedSimpArgs false
set_option linter.unusedVariables false
open Go Go.Fw

theorem funCells_len' (l : List FunV) : (funCells l).length = l.length := by simp [funCells]
theorem funCells_sz' (l : List FunV) : ∀ x ∈ funCells l, x.length = 5 := fun x hx => by
  obtain ⟨f, _, rfl⟩ := List.mem_map.1 hx
  exact f.len

section
variable {p q : PrgV} {x : Ins} {A : Nat → AV} {H : AHeap} {N : Nat} {fs : List Fr} {Q : Post} {n : Int} {k o o1 : Nat}

theorem same_g (hp : p.Rch) (hq : q.Rch) (h5 : A 5 = .ip p.cells 0) (h6 : A 6 = .ip q.cells 0)
    (hk : p.funs.length ≤ 20 → ∀ A', (∀ t ∈ [2, 3, 5, 6, 9], A' t = A t) → onward Tryd.prog fs Q .normal ⟨A', H, N⟩)
    (hr : ∀ A', A' 10 = bl true → onward Tryd.prog fs Q .ret ⟨A', H, N⟩) : run Tryd.prog a_same_g fs Q ⟨A, H, N⟩ := by
  have := hp.ml
  have := hp.ll
  have := hq.ml
  have := hq.ll
  have w1 : w64 ((p.mems.length : Int) + q.mems.length) = (p.mems.length : Int) + q.mems.length := wrap_i64 (by omega) (by omega)
  have w2 : w64 ((p.mems.length : Int) + q.mems.length + p.locks.length) = (p.mems.length : Int) + q.mems.length + p.locks.length := wrap_i64 (by omega) (by omega)
  have w3 : w64 ((p.mems.length : Int) + q.mems.length + p.locks.length + q.locks.length) = (p.mems.length : Int) + q.mems.length + p.locks.length + q.locks.length := wrap_i64 (by omega) (by omega)
  simp [a_same_g]
  refine p_works.acall ?_
  have fin : ∀ A', A' 5 = A 5 → run Tryd.prog (.ops [⟨some 49, .call (.val (.fn (.func 8) [] [])) [], none⟩, ⟨some 10, .val (.tmp 49), none⟩]) (.seq .ret :: fs) Q ⟨A', H, N⟩ := fun A' _ => by
    simp
    refine p_works.acall ?_
    simp
    exact hr _ (by simp)
  by_cases h1 : 20 < p.funs.length
  · simp [h5, h6, show (20 : Int) < p.funs.length by omega]
    refine p_works.acall ?_
    simp
    exact hr _ (by simp)
  · by_cases h2 : 20 < q.funs.length
    · simp [h5, h6, show ¬ (20 : Int) < p.funs.length by omega, show (20 : Int) < q.funs.length by omega]
      refine p_works.acall ?_
      simp
      exact hr _ (by simp)
    · by_cases h3 : 200 < p.mems.length + q.mems.length + p.locks.length + q.locks.length
      · simp [h5, h6, show ¬ (20 : Int) < p.funs.length by omega, show ¬ (20 : Int) < q.funs.length by omega, w1, w2, w3, show (200 : Int) < (p.mems.length : Int) + q.mems.length + p.locks.length + q.locks.length by omega]
        refine p_works.acall ?_
        simp
        exact hr _ (by simp)
      · simp [h5, h6, show ¬ (20 : Int) < p.funs.length by omega, show ¬ (20 : Int) < q.funs.length by omega, w1, w2, w3, show ¬ (200 : Int) < (p.mems.length : Int) + q.mems.length + p.locks.length + q.locks.length by omega]
        refine hk (by omega) _ ?_
        simp [h5, h6]

theorem same_b (hp : p.Cmp) (hq : q.Cmp) (hx : x.Ok) (h5 : A 5 = .ip p.cells 0) (h6 : A 6 = .ip q.cells 0) (h9 : A 9 = .ip x.cells 0)
    (hk : ∀ A', (∀ t ∈ [2, 3, 5, 9], A' t = A t) → onward Tryd.prog fs Q .normal ⟨A', H, N⟩) : run Tryd.prog a_same_b fs Q ⟨A, H, N⟩ := by
  simp [a_same_b, h5]
  refine (p_Same hp hp).acall ?_
  simp [samePrg_refl, h9]
  refine (p_SameIns x x hx hx).acall ?_
  simp [sameIns_refl, h5, h6]
  refine (p_Same hp hq).acall ?_
  simp
  refine (p_Same hq hp).acall ?_
  rw [samePrg_symm q p]
  simp
  exact hk _ (by simp [h5, h9])

theorem same_n (h5 : A 5 = .ip p.cells 0) (hk : p.funs.length ≠ 0 → ∀ A', (∀ t ∈ [2, 3, 5, 9], A' t = A t) → onward Tryd.prog fs Q .normal ⟨A', H, N⟩)
    (hr : ∀ A', A' 10 = bl true → onward Tryd.prog fs Q .ret ⟨A', H, N⟩) : run Tryd.prog a_same_n fs Q ⟨A, H, N⟩ := by
  by_cases h : p.funs.length = 0
  · simp [a_same_n, h5, h]
    exact hr _ (by simp)
  · have h' : p.funs ≠ [] := fun e => h (by rw [e]; rfl)
    simp [a_same_n, h5, h']
    exact hk h _ (by simp [h5])
theorem u64_nn (n : Int) : ∃ w : Nat, IntKind.u64.wrap n = w := by
  have : 0 ≤ IntKind.u64.wrap n := by
    simp [IntKind.wrap, IntKind.bits, IntKind.signed]
    first | omega | (split <;> omega)
  exact ⟨(IntKind.u64.wrap n).toNat, by omega⟩
theorem u64_small {l : Nat} (h : l ≤ 1000000) : IntKind.u64.wrap (l : Int) = l := by
  simp [IntKind.wrap, IntKind.bits, IntKind.signed]
  first | omega | (split <;> omega)
theorem same_k (hl : p.funs.length ≤ 20) (h0 : p.funs.length ≠ 0) (h2 : A 2 = i64 n) (h5 : A 5 = .ip p.cells 0) (hk : ∀ A' k, k < p.funs.length → A' 11 = i64 (k : Nat) → (∀ t ∈ [3, 5, 9], A' t = A t) → onward Tryd.prog fs Q .normal ⟨A', H, N⟩) :
    run Tryd.prog a_same_k fs Q ⟨A, H, N⟩ := by
  obtain ⟨w, hw⟩ := u64_nn n
  have h1 : ¬ ((p.funs.length : Int) = 0) := by omega
  have hm := Nat.mod_lt w (show 0 < p.funs.length by omega)
  have h' : p.funs ≠ [] := fun e => h0 (by rw [e]; rfl)
  simp [a_same_k, h2, h5, u64_small (show p.funs.length ≤ 1000000 by omega), hw, h']
  refine hk _ (w % p.funs.length) hm ?_ (by simp [h5])
  have e : (w : Int).tmod (p.funs.length : Int) = ((w % p.funs.length : Nat) : Int) := rfl
  simp
  rw [e, wrap_i64 (by omega) (by omega)]
  push_cast
  rfl
theorem same_x1 (h5 : A 5 = .ip p.cells 0) (hk : ∀ A', (∀ t ∈ [3, 5, 9, 11], A' t = A t) → A' 12 = .mp N 0 → onward Tryd.prog fs Q .normal ⟨A', H.set N (.blk p.cells), N + 1⟩) :
    run Tryd.prog a_same_x1 fs Q ⟨A, H, N⟩ := by
  simp [a_same_x1, h5]
  exact hk _ (by simp [h5]) (by simp)
theorem app_exact {y : AV} {news : List AV} {m sz bytes : Nat} (hs : asrc H sz y = some (news, m)) (hm : m ≠ 0) (hl : m * bytes ≤ lim) (hl2 : m ≤ 9223372036854775807) :
    aappend false sz bytes H N (.sl .exact sz []) y = some (.ms N 0 m sz, H.set N (.blk news), N + 1) := by
  simp only [aappend, hs]
  rw [if_neg hm, if_pos ⟨.inl trivial, by simpa using hl, by simpa using hl2⟩]
  simp
theorem same_x2 (hl : p.funs.length ≤ 20) (h0 : p.funs.length ≠ 0) (h5 : A 5 = .ip p.cells 0) (h12 : A 12 = .mp o 0) (ho : H o = some (.blk p.cells)) (hoN : o < N)
    (hk : ∀ A', (∀ t ∈ [3, 5, 9, 11, 12], A' t = A t) → onward Tryd.prog fs Q .normal ⟨A', (H.set N (.blk (funCells p.funs).flatten)).set o (.blk [.sl p.mmk 3 (memCells p.mems), .sl p.lk 1 (lockCells p.locks), .ms N 0 p.funs.length 5]), N + 1⟩) :
    run Tryd.prog a_same_x2 fs Q ⟨A, H, N⟩ := by
  have happ := app_exact (H := H) (N := N) (sz := 5) (bytes := 64) (y := .sl p.fk 5 (funCells p.funs)) (news := (funCells p.funs).flatten) (m := p.funs.length) (by simp [asrc, funCells_len']) h0 (by unfold lim; omega) (by omega)
  have hne : ¬ o = N := by omega
  simp [a_same_x2, h5, h12, happ, ho, hne]
  exact hk _ (by simp [h5, h12])
theorem flat_get {sz c i : Nat} {es : List (List AV)} {x : List AV} (h : ∀ x ∈ es, x.length = sz) (hx : es[i]? = some x) (hc : c < sz) : es.flatten[i * sz + c]? = x[c]? := by
  have := flatten_at h hx
  rw [← this, List.getElem?_take, if_pos hc, List.getElem?_drop]
theorem same_x3 {f : FunV} {mk lk : AV} {l : List FunV} (hf : l[k]? = some f) (hsz : f.name.size ≤ 140737488355328) (hl : l.length ≤ 20) (h11 : A 11 = i64 (k : Nat)) (h12 : A 12 = .mp o 0) (ho : H o = some (.blk [mk, lk, .ms o1 0 l.length 5])) (ho1 : H o1 = some (.blk (funCells l).flatten))
    (hk : ∀ A', (∀ t ∈ [3, 5, 9, 11, 12], A' t = A t) → onward Tryd.prog fs Q .normal ⟨A', H.set o1 (.blk (funCells (l.set k { f with name := f.name ++ ⟨#[120]⟩ })).flatten), N⟩) :
    run Tryd.prog a_same_x3 fs Q ⟨A, H, N⟩ := by
  have hkl : k < l.length := (List.getElem?_eq_some_iff.1 hf).1
  have hq : aindex 5 (.ms o1 0 l.length 5) (i64 (k : Nat)) = some (.mp o1 (k * 5)) := by simp [aindex, hkl]
  have hfc : (funCells l)[k]? = some f.cells := by simp [funCells, hf]
  have hg : (funCells l).flatten[k * 5]? = some (str f.name) := flat_get (c := 0) (funCells_sz' l) hfc (by omega)
  have hlen : (funCells l).flatten.length = l.length * 5 := by rw [flatten_len (funCells_sz' l), funCells_len']
  have hb : k * 5 + 1 ≤ l.length * 5 := by omega
  have hadd : sbin .add f.name ⟨#[120]⟩ = some (.string (f.name ++ ⟨#[120]⟩)) := by
    simp only [sbin]
    rw [if_pos (by show f.name.size + 1 ≤ 9223372036854775807; omega)]
  have hset := flat_set (c := 0) (v := str (f.name ++ ⟨#[120]⟩)) (show 0 < 5 by omega) (funCells_sz' l) (k := k) (by rw [funCells_len']; exact hkl)
  have hfx : (funCells l)[k]'(by rw [funCells_len']; exact hkl) = f.cells := by
    have := List.getElem?_eq_getElem (l := funCells l) (i := k) (by rw [funCells_len']; exact hkl)
    rw [hfc] at this
    exact (Option.some.inj this).symm
  rw [hfx, Nat.add_zero] at hset
  have hcs : (funCells l).set k (f.cells.set 0 (str (f.name ++ ⟨#[120]⟩))) = funCells (l.set k { f with name := f.name ++ ⟨#[120]⟩ }) := by
    simp only [funCells, List.map_set]
    rfl
  rw [hcs] at hset
  simp [a_same_x3, h11, h12, ho, ho1, hq, hg, hlen, hb, hadd, hset]
  exact hk _ (by simp [h11, h12])
end
end Go.Proofs.YtanpcmkhhpaeiaaDoor
