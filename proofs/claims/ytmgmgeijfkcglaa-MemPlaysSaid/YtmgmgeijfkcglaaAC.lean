/- The contract of MemCells. -/
import Derived.Test.YtmgmgeijfkcglaaA7
import Derived.Test.YtmgmgeijfkcglaaM4
import Derived.Test.YtmgmgeijfkcglaaK3
import Derived.Test.YtmgmgeijfkcglaaAB
namespace Go.Proofs.Ytmgmgeijfkcglaa
set_option linter.unusedSimpArgs false
set_option linter.unusedVariables false
open Go Go.Fw
/-- All types that the parameters reach. -/
def argTypes : List TypeId := [32, 33, 3, 39, 41, 9, 2, 5]
theorem map_of {α β : Type} {f : α → β} : ∀ {es : List β}, (∀ x ∈ es, ∃ g, x = f g) → ∃ l : List α, es = l.map f
  | [], _ => ⟨[], rfl⟩
  | x :: es, h => by
    obtain ⟨g, rfl⟩ := h x (by simp)
    obtain ⟨l, rfl⟩ := map_of (es := es) (fun y hy => h y (by simp [hy]))
    exact ⟨g :: l, rfl⟩

theorem lays_int {n : Nat} {t : TypeId} {k : IntKind} {x : List AV} (hu : Try.prog.underlying t = some (.int k)) (h : Lays Try.prog n t x) : ∃ m, x = [.lit (.int k m)] ∧ (Lit.int k m).wf = true := by
  cases n with
  | zero => exact h.elim
  | succ n => simpa only [Lays, hu] using h
theorem lays_str {n : Nat} {t : TypeId} {x : List AV} (hu : Try.prog.underlying t = some .string) (h : Lays Try.prog n t x) : ∃ s, x = [.lit (.string s)] ∧ s.size ≤ maxLen := by
  cases n with
  | zero => exact h.elim
  | succ n => simpa only [Lays, hu] using h

theorem lays_glob {n : Nat} {x : List AV} (h : Lays Try.prog n 39 x) : ∃ g : Glob, x = g.cells := by
  cases n with
  | zero => exact h.elim
  | succ n =>
    simp only [Lays, Try.underlying39] at h
    obtain ⟨parts, rfl, hl, hp⟩ := h
    match parts, hl with
    | [p0, p1, p2], _ =>
      obtain ⟨s, rfl, _⟩ := lays_str Try.underlying9 (hp 0 _ p0 rfl rfl)
      obtain ⟨m, rfl, _⟩ := lays_int Try.underlying3 (hp 1 _ p1 rfl rfl)
      obtain ⟨f, rfl, _⟩ := lays_int Try.underlying2 (hp 2 _ p2 rfl rfl)
      exact ⟨⟨s, m, f⟩, rfl⟩

/-- A step. -/
structure StepV where
  kind : Int
  at_ : Int
  here : Int
  v : Int
def StepV.cells (x : StepV) : List AV := [u8 x.kind, i64 x.at_, i64 x.here, i64 x.v]

theorem lays_step {n : Nat} {x : List AV} (h : Lays Try.prog n 41 x) : ∃ g : StepV, x = g.cells := by
  cases n with
  | zero => exact h.elim
  | succ n =>
    simp only [Lays, Try.underlying41] at h
    obtain ⟨parts, rfl, hl, hp⟩ := h
    match parts, hl with
    | [p0, p1, p2, p3], _ =>
      obtain ⟨k, rfl, _⟩ := lays_int Try.underlying5 (hp 0 _ p0 rfl rfl)
      obtain ⟨a, rfl, _⟩ := lays_int Try.underlying3 (hp 1 _ p1 rfl rfl)
      obtain ⟨h, rfl, _⟩ := lays_int Try.underlying3 (hp 2 _ p2 rfl rfl)
      obtain ⟨v, rfl, _⟩ := lays_int Try.underlying2 (hp 3 _ p3 rfl rfl)
      exact ⟨⟨k, a, h, v⟩, rfl⟩

theorem arg_globs {a : AV} (h : Arg Try.prog 32 a) : ∃ (k : SK) (l : List Glob), a = .sl k 3 (l.map Glob.cells) ∧ l.length ≤ maxLen := by
  obtain ⟨x, n, h, rfl⟩ := h
  cases n with
  | zero => exact h.elim
  | succ n =>
    simp only [Lays, Try.underlying32] at h
    obtain ⟨kd, es, rfl, _, hlen, hes⟩ := h
    obtain ⟨l, rfl⟩ := map_of (fun x hx => lays_glob (hes x hx))
    have : Try.prog.cellsOf 39 = 3 := by kernel_rfl
    exact ⟨kd, l, by simp [Try.underlying32, this], by simpa using hlen⟩
theorem arg_steps {a : AV} (h : Arg Try.prog 33 a) : ∃ (k : SK) (l : List StepV), a = .sl k 4 (l.map StepV.cells) ∧ l.length ≤ maxLen := by
  obtain ⟨x, n, h, rfl⟩ := h
  cases n with
  | zero => exact h.elim
  | succ n =>
    simp only [Lays, Try.underlying33] at h
    obtain ⟨kd, es, rfl, _, hlen, hes⟩ := h
    obtain ⟨l, rfl⟩ := map_of (fun x hx => lays_step (hes x hx))
    have : Try.prog.cellsOf 41 = 4 := by kernel_rfl
    exact ⟨kd, l, by simp [Try.underlying33, this], by simpa using hlen⟩
theorem arg_int {a : AV} (h : Arg Try.prog 3 a) : ∃ m, a = i64 m ∧ (Lit.int .i64 m).wf = true := by
  obtain ⟨x, n, h, rfl⟩ := h
  obtain ⟨m, rfl, hw⟩ := lays_int Try.underlying3 h
  exact ⟨m, by simp [Try.underlying3], hw⟩

theorem step_load (H : AHeap) (x : StepV) : aload H true 4 (.ip x.cells 0) = some (.agg x.cells) := by simp [StepV.cells]

/-- What MemCells knows ahead of each step. -/
structure CellsInv (k1 : SK) (st : List StepV) (x y z : Int) (m : Nat) (j : Nat) (s : St) : Prop where
  ex : ∃ hid cid rids rows held who, IsMem s.H m hid cid rids rows 4 held ∧ Fresh s.H s.N ∧ j ≤ st.length ∧
    s.A 1 = .sl k1 4 (st.map StepV.cells) ∧ s.A 2 = i64 x ∧ s.A 3 = i64 y ∧ s.A 4 = i64 z ∧ s.A 11 = .mp m 0 ∧ s.A 13 = bl (decide (cellErr rows x y = 0)) ∧ s.A 14 = i64 (cellAt rows x y) ∧
    s.A 15 = bl (holder held z).isSome ∧ s.A 16 = i64 who ∧ (∀ v, holder held z = some v → who = v) ∧ s.A 17 = bl (decide (lockErr 4 z = 0)) ∧ s.A 18 = i64 j

theorem IsMem.lts {H : AHeap} {N m hid cid : Nat} {rids : List Nat} {rows : List (List Int)} {locks : Int} {held : List (Int × Int)} (hM : IsMem H m hid cid rids rows locks held) (hF : Fresh H N) : N ∉ rids ∧ N ≠ hid := by
  refine ⟨fun h => ?_, fun h => ?_⟩
  · obtain ⟨i, hi, rfl⟩ := List.getElem_of_mem h
    have hl := hM.hl
    have := hF.lt (hM.hr i rids[i] (rows[i]'(by omega)) (by simp [hi]) (by simp))
    omega
  · have := hF.lt hM.hh
    omega

theorem find_append {held : List (Int × Int)} {z : Int} (x : Int × Int) : holder (held ++ [x]) z = (holder held z).or (if x.1 == z then some x.2 else none) := by
  unfold holder
  rw [List.find?_append]
  cases h : List.find? (fun x => x.1 == z) held with
  | some y => simp
  | none => simp [List.find?_cons]; split <;> simp_all

theorem holder_take {held : List (Int × Int)} {a w z : Int} : holder (takeHeld 4 held a w) z = if a = z ∧ takeErr 4 held a = 0 then some w else holder held z := by
  unfold takeHeld
  by_cases h : takeErr 4 held a = 0
  · rw [if_pos h, find_append]
    by_cases ha : a = z
    · subst ha
      have hn : holder held a = none := by
        unfold takeErr at h
        split at h
        · exact absurd h (by assumption)
        · split at h
          · cases h
          · rename_i hs; simpa using hs
      simp [h, hn]
    · have : (a == z) = false := by simpa using ha
      simp [ha, this]
  · simp [h]

theorem holder_give {held : List (Int × Int)} {a w z : Int} : holder (giveHeld 4 held a w) z = if a = z ∧ giveErr 4 held a w = 0 then none else holder held z := by
  unfold giveHeld
  by_cases h : giveErr 4 held a w = 0
  · rw [if_pos h]
    unfold holder
    rw [List.find?_filter]
    by_cases ha : a = z
    · subst ha
      simp [h]
    · simp only [ha, false_and, if_false]
      congr 1
      congr 1
      funext x
      by_cases hx : x.1 = z
      · subst hx; simp [Ne.symm ha]
      · simp [hx]
  · simp [h]

section
variable {m hid cid : Nat} {rids : List Nat} {rows : List (List Int)} {held : List (Int × Int)} {x y z who : Int} {fs : List Fr} {Q : Post} {A : Nat → AV} {H : AHeap} {N : Nat}

theorem cells_tail (hM : IsMem H m hid cid rids rows 4 held) (h2 : A 2 = i64 x) (h3 : A 3 = i64 y) (h4 : A 4 = i64 z) (h11 : A 11 = .mp m 0) (h13 : A 13 = bl (decide (cellErr rows x y = 0)))
    (h14 : A 14 = i64 (cellAt rows x y)) (h15 : A 15 = bl (holder held z).isSome) (h16 : A 16 = i64 who) (hwho : ∀ v, holder held z = some v → who = v)
    (hk : ∀ A' : Nat → AV, (∀ t ∈ [1, 2, 3, 4, 11, 13, 14, 15, 16, 17, 18], A' t = A t) → onward Try.prog fs Q .normal ⟨A', H, N⟩) : run Try.prog a7t fs Q ⟨A, H, N⟩ := by
  simp [a7t, h2, h3, h11]
  refine (p24 hM x y _).mono ?_
  rintro r H3 N3 ⟨rfl, rfl, rfl⟩
  simp [h11, h4]
  refine (p25 hM z _).mono ?_
  rintro r H3 N3 ⟨rfl, rfl, rfl⟩
  simp [h13, h14, h15, h16]
  cases hh : holder held z with
  | none =>
    simp
    exact hk _ (by simp)
  | some v =>
    have hv := hwho v hh
    subst hv
    simp [h16]
    exact hk _ (by simp)
end

section
variable {rows : List (List Int)} {held : List (Int × Int)} {x y z who kd ai hi vi : Int} {fs : List Fr} {Q : Post} {A : Nat → AV} {H : AHeap} {N n : Nat}

theorem set_piece (h2 : A 2 = i64 x) (h3 : A 3 = i64 y) (h13 : A 13 = bl (decide (cellErr rows x y = 0))) (h14 : A 14 = i64 (cellAt rows x y)) (h19 : A 19 = .mp n 0) (h20 : A 20 = i64 (cellErr rows ai hi))
    (hN : H n = some (.blk [u8 kd, i64 ai, i64 hi, i64 vi]))
    (hk : ∀ A' : Nat → AV, (∀ t ∈ [1, 2, 3, 4, 11, 13, 15, 16, 17, 18], A' t = A t) → A' 14 = i64 (cellAt (setRows rows ai hi vi) x y) → onward Try.prog fs Q .normal ⟨A', H, N⟩) : run Try.prog a7s fs Q ⟨A, H, N⟩ := by
  by_cases hc : cellErr rows x y = 0
  · by_cases ha : ai = x
    · by_cases hh : hi = y
      · subst ha; subst hh
        simp [a7s, h13, h2, h3, hc, hN, h19, h20]
        exact hk _ (by simp) (by simp [setRows_at, hc])
      · simp [a7s, h13, h2, h3, hc, hN, h19, ha, hh]
        exact hk _ (by simp) (by simp [setRows_at, hh, h14])
    · simp [a7s, h13, h2, h3, hc, hN, h19, ha]
      exact hk _ (by simp) (by simp [setRows_at, ha, h14])
  · simp [a7s, h13, h2, h3, hc]
    exact hk _ (by simp) (by simp [setRows_at, hc, h14])

theorem take_piece (h4 : A 4 = i64 z) (h15 : A 15 = bl (holder held z).isSome) (h16 : A 16 = i64 who) (hwho : ∀ v, holder held z = some v → who = v) (h17 : A 17 = bl (decide (lockErr 4 z = 0))) (h19 : A 19 = .mp n 0)
    (h21 : A 21 = i64 (takeErr 4 held ai)) (hN : H n = some (.blk [u8 kd, i64 ai, i64 hi, i64 vi]))
    (hk : ∀ (A' : Nat → AV) (who' : Int), (∀ t ∈ [1, 2, 3, 4, 11, 13, 14, 17, 18], A' t = A t) → A' 15 = bl (holder (takeHeld 4 held ai hi) z).isSome → A' 16 = i64 who' → (∀ v, holder (takeHeld 4 held ai hi) z = some v → who' = v) →
      onward Try.prog fs Q .normal ⟨A', H, N⟩) : run Try.prog a7k fs Q ⟨A, H, N⟩ := by
  by_cases hm : lockErr 4 z = 0
  · by_cases ha : ai = z
    · subst ha
      cases hh : holder held ai with
      | some v =>
        have ht : takeErr 4 held ai = 6 := by simp [takeErr, hm, hh]
        have hold : holder (takeHeld 4 held ai hi) ai = some v := by rw [holder_take, ht]; simp [hh]
        simp [a7k, h17, h4, hm, hN, h19, h21, h15, hh, ht]
        exact hk _ who (by simp) (by simp [h15, hh, hold]) (by simp [h16]) (fun u hu => hwho u (by rw [hh, ← hold, hu]))
      | none =>
        have ht : takeErr 4 held ai = 0 := by simp [takeErr, hm, hh]
        have hold : holder (takeHeld 4 held ai hi) ai = some hi := by rw [holder_take, ht]; simp
        simp [a7k, h17, h4, hm, hN, h19, h21, h15, hh, ht]
        exact hk _ hi (by simp) (by simp [hold]) (by simp) (fun u hu => by rw [hold] at hu; exact Option.some.inj hu)
    · have hold : holder (takeHeld 4 held ai hi) z = holder held z := by rw [holder_take]; simp [ha]
      simp [a7k, h17, h4, hm, hN, h19, ha]
      exact hk _ who (by simp) (by simp [h15, hold]) (by simp [h16]) (fun u hu => hwho u (by rw [← hold, hu]))
  · have hold : holder (takeHeld 4 held ai hi) z = holder held z := by
      rw [holder_take, if_neg]
      rintro ⟨rfl, ht⟩
      simp [takeErr, hm] at ht
    simp [a7k, h17, hm]
    exact hk _ who (by simp) (by simp [h15, hold]) (by simp [h16]) (fun u hu => hwho u (by rw [← hold, hu]))

theorem give_piece (h4 : A 4 = i64 z) (h15 : A 15 = bl (holder held z).isSome) (h16 : A 16 = i64 who) (hwho : ∀ v, holder held z = some v → who = v) (h17 : A 17 = bl (decide (lockErr 4 z = 0))) (h19 : A 19 = .mp n 0)
    (h22 : A 22 = i64 (giveErr 4 held ai hi)) (hN : H n = some (.blk [u8 kd, i64 ai, i64 hi, i64 vi]))
    (hk : ∀ A' : Nat → AV, (∀ t ∈ [1, 2, 3, 4, 11, 13, 14, 17, 18], A' t = A t) → A' 15 = bl (holder (giveHeld 4 held ai hi) z).isSome → A' 16 = i64 who → (∀ v, holder (giveHeld 4 held ai hi) z = some v → who = v) →
      onward Try.prog fs Q .normal ⟨A', H, N⟩) : run Try.prog a7g fs Q ⟨A, H, N⟩ := by
  by_cases hm : lockErr 4 z = 0
  · by_cases ha : ai = z
    · subst ha
      cases hh : holder held ai with
      | none =>
        have ht : giveErr 4 held ai hi = 69 := by simp [giveErr, hm, hh]
        have hold : holder (giveHeld 4 held ai hi) ai = none := by rw [holder_give, ht]; simp [hh]
        simp [a7g, h17, h4, hm, hN, h19, h22, h15, h16, hh, ht]
        exact hk _ (by simp) (by simp [h15, hh, hold]) (by simp [h16]) (fun u hu => by rw [hold] at hu; cases hu)
      | some v =>
        have hv := hwho v hh
        subst hv
        by_cases hb : who = hi
        · subst hb
          have ht : giveErr 4 held ai who = 0 := by simp [giveErr, hm, hh]
          have hold : holder (giveHeld 4 held ai who) ai = none := by rw [holder_give, ht]; simp
          simp [a7g, h17, h4, hm, hN, h19, h22, h15, h16, hh, ht]
          exact hk _ (by simp) (by simp [hold]) (by simp [h16]) (fun u hu => by rw [hold] at hu; cases hu)
        · have ht : giveErr 4 held ai hi = 69 := by simp [giveErr, hm, hh, hb]
          have hold : holder (giveHeld 4 held ai hi) ai = some who := by rw [holder_give, ht]; simp [hh]
          simp [a7g, h17, h4, hm, hN, h19, h22, h15, h16, hh, ht, hb]
          exact hk _ (by simp) (by simp [h15, hh, hold]) (by simp [h16]) (fun u hu => by rw [hold] at hu; exact Option.some.inj hu)
    · have hold : holder (giveHeld 4 held ai hi) z = holder held z := by rw [holder_give]; simp [ha]
      simp [a7g, h17, h4, hm, hN, h19, ha]
      exact hk _ (by simp) (by simp [h15, hold]) (by simp [h16]) (fun u hu => hwho u (by rw [← hold, hu]))
  · have hold : holder (giveHeld 4 held ai hi) z = holder held z := by
      rw [holder_give, if_neg]
      rintro ⟨rfl, ht⟩
      simp [giveErr, hm] at ht
    simp [a7g, h17, hm]
    exact hk _ (by simp) (by simp [h15, hold]) (by simp [h16]) (fun u hu => hwho u (by rw [← hold, hu]))
end

theorem cells_loop {fs : List Fr} {Q : Post} (hend : ∀ s, onward Try.prog fs Q (.exit 0) s) {k : SK} {st : List StepV} (hst : st.length ≤ 100) {x y z : Int} {m : Nat} {s : St}
    (h : CellsInv k st x y z m 0 s) : run Try.prog (.loop a7b1) fs Q s := by
  refine run_loop (fun q s => ∃ j, q = st.length - j ∧ CellsInv k st x y z m j s) st.length ⟨0, by simp, h⟩ ?_
  rintro q A H N ⟨j, rfl, hid, cid, rids, rows, held, who, hM, hF, hj, h1, h2, h3, h4, h11, h13, h14, h15, h16, hwho, h17, h18⟩
  simp only at hM hF h1 h2 h3 h4 h11 h13 h14 h15 h16 h17 h18
  by_cases hjl : j = st.length
  · subst hjl
    simp [a7b1, h1, h18, hend]
  · have hlt : j < st.length := by omega
    have hix : aindex 4 (.sl k 4 (st.map StepV.cells)) (i64 j) = some (.ip st[j].cells 0) := by simp [aindex, hlt]
    obtain ⟨kd, ai, hi, vi, hcs⟩ : ∃ kd ai hi vi : Int, st[j].cells = [u8 kd, i64 ai, i64 hi, i64 vi] := ⟨_, _, _, _, rfl⟩
    have hsp : splice 0 [u8 kd, i64 ai, i64 hi, i64 vi] [AV.lit (Value.int IntKind.u8 0), AV.lit (Value.int IntKind.i64 0), AV.lit (Value.int IntKind.i64 0), AV.lit (Value.int IntKind.i64 0)] = [u8 kd, i64 ai, i64 hi, i64 vi] := by simp [splice]
    rw [hcs] at hix
    have hM2 := hM.keep (hF.keeps (.blk [u8 kd, i64 ai, i64 hi, i64 vi]))
    have hF2 := hF.set (.blk [u8 kd, i64 ai, i64 hi, i64 vi])
    obtain ⟨hNr, hNh⟩ := hM.lts hF
    have hw : IntKind.i64.wrap ((j : Int) + 1) = ((j + 1 : Nat) : Int) := by rw [wrap_i64 (by omega) (by omega)]; rfl
    have fin : ∀ s2 : St, CellsInv k st x y z m (j + 1) s2 → ∃ m_1, m_1 < st.length - j ∧ ∃ j', m_1 = st.length - j' ∧ CellsInv k st x y z m j' s2 := fun s2 h => ⟨st.length - (j + 1), by omega, j + 1, rfl, h⟩
    have hnat : ((j + 1 : Nat) : Int) = (j : Int) + 1 := by omega
    have next : ∀ (A' : Nat → AV) (H3 : AHeap) (rows' : List (List Int)) (held' : List (Int × Int)) (who' : Int), IsMem H3 m hid cid rids rows' 4 held' → Fresh H3 (N + 1) → A' 1 = A 1 → A' 2 = A 2 → A' 3 = A 3 → A' 4 = A 4 → A' 11 = A 11 → A' 13 = bl (decide (cellErr rows' x y = 0)) →
        A' 14 = i64 (cellAt rows' x y) → A' 15 = bl (holder held' z).isSome → A' 16 = i64 who' → (∀ v, holder held' z = some v → who' = v) → A' 17 = A 17 → A' 18 = i64 (j + 1) → CellsInv k st x y z m (j + 1) ⟨A', H3, N + 1⟩ :=
      fun A' H3 rows' held' who' hM3 hF3 e1 e2 e3 e4 e11 e13 e14 e15 e16 hwho' e17 e18 =>
      ⟨hid, cid, rids, rows', held', who', hM3, hF3, by omega, e1.trans h1, e2.trans h2, e3.trans h3, e4.trans h4, e11.trans h11, e13, e14, e15, e16, hwho', e17.trans h17, e18.trans (by rw [hnat])⟩
    by_cases k0 : kd = 0
    · subst k0
      simp [a7b1, h1, h18, hlt, hix, hsp, h11, h2, h3]
      refine (p21 hM2 ai hi vi _).monoF ?_
      rintro r H3 N3 ⟨rfl, hM3, hfr, rfl⟩ hF3 _
      have hN3 := hfr N hNr
      simp at hN3
      simp
      refine set_piece (rows := rows) (x := x) (y := y) (by simp [h2]) (by simp [h3]) (by simp [h13]) (by simp [h14]) (by simp) (by simp) hN3 (fun A1 hA1 f14 => ?_)
      simp at hA1
      obtain ⟨f1, f2, f3, f4, f11, f13, f15, f16, f17, f18⟩ := hA1
      simp
      refine cells_tail hM3 (who := who) (x := x) (y := y) (z := z) (f2.trans h2) (f3.trans h3) (f4.trans h4) (f11.trans h11) (by rw [f13, h13, setRows_err]) f14 (f15.trans h15) (f16.trans h16) hwho (fun A' hA' => ?_)
      simp at hA'
      obtain ⟨e1, e2, e3, e4, e11, e13, e14, e15, e16, e17, e18⟩ := hA'
      simp [e18, f18, h18, hw]
      exact fin _ (next _ _ _ _ who hM3 hF3 (by simp [e1, f1]) (by simp [e2, f2]) (by simp [e3, f3]) (by simp [e4, f4]) (by simp [e11, f11]) (by simp [e13, f13, h13, setRows_err]) (by simp [e14, f14]) (by simp [e15, f15, h15]) (by simp [e16, f16, h16]) hwho (by simp [e17, f17]) (by simp))
    · by_cases k1 : kd = 1
      · subst k1
        simp [a7b1, h1, h18, hlt, hix, hsp, h11, h2, h3]
        refine (p22 hM2 ai hi _).monoF ?_
        rintro r H3 N3 ⟨rfl, hM3, hfr, rfl⟩ hF3 _
        have hN3 := hfr N hNh
        simp at hN3
        simp
        refine take_piece (held := held) (z := z) (who := who) (hi := hi) (by simp [h4]) (by simp [h15]) (by simp [h16]) hwho (by simp [h17]) (by simp) (by simp) hN3 (fun A1 who' hA1 f15 f16 hwho' => ?_)
        simp at hA1
        obtain ⟨f1, f2, f3, f4, f11, f13, f14, f17, f18⟩ := hA1
        simp
        refine cells_tail hM3 (who := who') (x := x) (y := y) (z := z) (f2.trans h2) (f3.trans h3) (f4.trans h4) (f11.trans h11) (f13.trans h13) (f14.trans h14) f15 f16 hwho' (fun A' hA' => ?_)
        simp at hA'
        obtain ⟨e1, e2, e3, e4, e11, e13, e14, e15, e16, e17, e18⟩ := hA'
        simp [e18, f18, h18, hw]
        exact fin _ (next _ _ _ _ who' hM3 hF3 (by simp [e1, f1]) (by simp [e2, f2]) (by simp [e3, f3]) (by simp [e4, f4]) (by simp [e11, f11]) (by simp [e13, f13, h13]) (by simp [e14, f14, h14]) (by simp [e15, f15]) (by simp [e16, f16]) hwho' (by simp [e17, f17]) (by simp))
      · by_cases k2 : kd = 2
        · subst k2
          simp [a7b1, h1, h18, hlt, hix, hsp, h11, h2, h3]
          refine (p23 hM2 ai hi _).monoF ?_
          rintro r H3 N3 ⟨rfl, hM3, hfr, rfl⟩ hF3 _
          have hN3 := hfr N hNh
          simp at hN3
          simp
          refine give_piece (held := held) (z := z) (who := who) (hi := hi) (by simp [h4]) (by simp [h15]) (by simp [h16]) hwho (by simp [h17]) (by simp) (by simp) hN3 (fun A1 hA1 f15 f16 hwho' => ?_)
          simp at hA1
          obtain ⟨f1, f2, f3, f4, f11, f13, f14, f17, f18⟩ := hA1
          simp
          refine cells_tail hM3 (who := who) (x := x) (y := y) (z := z) (f2.trans h2) (f3.trans h3) (f4.trans h4) (f11.trans h11) (f13.trans h13) (f14.trans h14) f15 f16 hwho' (fun A' hA' => ?_)
          simp at hA'
          obtain ⟨e1, e2, e3, e4, e11, e13, e14, e15, e16, e17, e18⟩ := hA'
          simp [e18, f18, h18, hw]
          exact fin _ (next _ _ _ _ who hM3 hF3 (by simp [e1, f1]) (by simp [e2, f2]) (by simp [e3, f3]) (by simp [e4, f4]) (by simp [e11, f11]) (by simp [e13, f13, h13]) (by simp [e14, f14, h14]) (by simp [e15, f15]) (by simp [e16, f16]) hwho' (by simp [e17, f17]) (by simp))
        · simp [a7b1, h1, h18, hlt, hix, hsp, k0, k1, k2, h11, h2, h3]
          refine cells_tail hM2 (who := who) (x := x) (y := y) (z := z) (by simp [h2]) (by simp [h3]) (by simp [h4]) (by simp [h11]) (by simp [h13]) (by simp [h14]) (by simp [h15]) (by simp [h16]) hwho (fun A' hA' => ?_)
          simp at hA'
          obtain ⟨e1, e2, e3, e4, e11, e13, e14, e15, e16, e17, e18⟩ := hA'
          simp [e18, h18, hw]
          exact fin _ (next _ _ _ _ who hM2 hF2 (by simp [e1]) (by simp [e2]) (by simp [e3]) (by simp [e4]) (by simp [e11]) (by simp [e13, h13]) (by simp [e14, h14]) (by simp [e15, h15]) (by simp [e16, h16]) hwho (by simp [e17]) (by simp))

section
variable {l : List Glob} {k0 : SK} {x y z : Int} {fs : List Fr} {Q : Post} {A : Nat → AV} {H : AHeap} {N : Nat}

theorem row_len {g : Glob} (hg : g.bad = false) : (g.row.length : Int) = g.size := by
  simp [Glob.bad] at hg
  simp [Glob.row]; omega

theorem there_piece (hl : l.length ≤ 20) (hb : l.any Glob.bad = false) (h0 : A 0 = .sl k0 3 (l.map Glob.cells)) (h2 : A 2 = i64 x) (h3 : A 3 = i64 y)
    (hk : ∀ A' : Nat → AV, (∀ t ∈ [0, 1, 2, 3, 4, 11], A' t = A t) → A' 13 = bl (decide (cellErr (l.map Glob.row) x y = 0)) → run Try.prog a7h2 fs Q ⟨A', H, N⟩) : run Try.prog a7h fs Q ⟨A, H, N⟩ := by
  by_cases hx0 : 0 ≤ x
  · by_cases hx1 : x < (l.length : Int)
    · by_cases hy0 : 0 ≤ y
      · have hxl : x.toNat < l.length := by omega
        have hg : l[x.toNat].bad = false := by
          cases h : l[x.toNat].bad with
          | false => rfl
          | true => have := List.any_eq_true.2 ⟨l[x.toNat], List.getElem_mem hxl, h⟩; rw [hb] at this; cases this
        have hrl := row_len hg
        have hix : aindex 3 (.sl k0 3 (l.map Glob.cells)) (i64 x) = some (.ip [.lit (.string l[x.toNat].name), i64 l[x.toNat].size, i64 l[x.toNat].first] 0) := by
          simp [aindex, hx0, hx1, hxl, Glob.cells]
        have hc : y < l[x.toNat].size ↔ cellErr (l.map Glob.row) x y = 0 := by
          simp only [cellErr, List.length_map, List.getD_eq_getElem?_getD, List.getElem?_map, List.getElem?_eq_getElem hxl, Option.map_some, Option.getD_some, hrl]
          rw [if_neg (by omega)]
          split <;> simp <;> omega
        simp [a7h, h0, h2, h3, hx0, hx1, hy0, hix]
        exact hk _ (by simp) (by simp; exact hc)
      · have hc : ¬ cellErr (l.map Glob.row) x y = 0 := by
          unfold cellErr
          rw [if_neg (by simp; omega), if_pos (by omega)]; simp
        simp [a7h, h0, h2, h3, hx0, hx1, hy0]
        exact hk _ (by simp) (by simp [hc])
    · have hc : ¬ cellErr (l.map Glob.row) x y = 0 := by
        unfold cellErr
        rw [if_pos (by simp; omega)]; simp
      simp [a7h, h0, h2, h3, hx0, hx1]
      exact hk _ (by simp) (by simp [hc])
  · have hc : ¬ cellErr (l.map Glob.row) x y = 0 := by
      unfold cellErr
      rw [if_pos (by omega)]; simp
    simp [a7h, h0, h2, h3, hx0]
    exact hk _ (by simp) (by simp [hc])

theorem want_piece {k1 : SK} {st : List StepV} {m hid cid : Nat} {rids : List Nat} (hst : st.length ≤ 100) (hM : IsMem H m hid cid rids (l.map Glob.row) 4 []) (hF : Fresh H N) (h0 : A 0 = .sl k0 3 (l.map Glob.cells)) (h1 : A 1 = .sl k1 4 (st.map StepV.cells))
    (h2 : A 2 = i64 x) (h3 : A 3 = i64 y) (h4 : A 4 = i64 z) (h11 : A 11 = .mp m 0) (h13 : A 13 = bl (decide (cellErr (l.map Glob.row) x y = 0))) : run Try.prog a7h2 [] (Go.Fw.fin [.tmp 10] (fun r _ _ => r = bl true)) ⟨A, H, N⟩ := by
  have lock : ∀ (A' : Nat → AV) (w : Int), A' 1 = A 1 → A' 2 = A 2 → A' 3 = A 3 → A' 4 = A 4 → A' 11 = A 11 → A' 13 = A 13 → A' 14 = i64 (cellAt (l.map Glob.row) x y) → A' 15 = bl false → A' 16 = i64 0 → A' 17 = bl (decide (lockErr 4 z = 0)) → A' 18 = i64 0 →
      CellsInv k1 st x y z m 0 ⟨A', H, N⟩ := fun A' w e1 e2 e3 e4 e11 e13 e14 e15 e16 e17 e18 =>
    ⟨hid, cid, rids, _, [], 0, hM, hF, by omega, e1.trans h1, e2.trans h2, e3.trans h3, e4.trans h4, e11.trans h11, e13.trans h13, e14, e15.trans rfl, e16, (fun v hv => by simp [holder] at hv), e17, e18⟩
  have hz : (lockErr 4 z = 0) ↔ (0 ≤ z ∧ z < 4) := by unfold lockErr; split <;> simp <;> omega
  by_cases hc : cellErr (l.map Glob.row) x y = 0
  · obtain ⟨hx0, hy0, hx1, hy1⟩ := cellErr_in hc
    have hxl : x.toNat < l.length := by simpa using hx1
    have hix : aindex 3 (.sl k0 3 (l.map Glob.cells)) (i64 x) = some (.ip [.lit (.string l[x.toNat].name), i64 l[x.toNat].size, i64 l[x.toNat].first] 0) := by
      simp [aindex, hx0, show x < (l.length : Int) by omega, hxl, Glob.cells]
    have hat : cellAt (l.map Glob.row) x y = l[x.toNat].first := by
      simp [hxl, Glob.row] at hy1
      simp [cellAt, hc, hxl, Glob.row, hy1]
    by_cases hz0 : 0 ≤ z
    · simp [a7h2, h13, hc, h0, h2, hix, h4, hz0]
      refine cells_loop (by rintro ⟨A, H, N⟩; simp) (k := k1) (st := st) (x := x) (y := y) (z := z) (m := m) hst (lock _ 0 (by simp) (by simp) (by simp) (by simp) (by simp) (by simp) (by simp [hat]) (by simp) (by simp) (by simp [hz, hz0]) (by simp))
    · simp [a7h2, h13, hc, h0, h2, hix, h4, hz0]
      refine cells_loop (by rintro ⟨A, H, N⟩; simp) (k := k1) (st := st) (x := x) (y := y) (z := z) (m := m) hst (lock _ 0 (by simp) (by simp) (by simp) (by simp) (by simp) (by simp) (by simp [hat]) (by simp) (by simp) (by simp [hz, hz0]) (by simp))
  · have hat : cellAt (l.map Glob.row) x y = 0 := by simp [cellAt, hc]
    by_cases hz0 : 0 ≤ z
    · simp [a7h2, h13, hc, h4, hz0]
      refine cells_loop (by rintro ⟨A, H, N⟩; simp) (k := k1) (st := st) (x := x) (y := y) (z := z) (m := m) hst (lock _ 0 (by simp) (by simp) (by simp) (by simp) (by simp) (by simp) (by simp [hat]) (by simp) (by simp) (by simp [hz, hz0]) (by simp))
    · simp [a7h2, h13, hc, h4, hz0]
      refine cells_loop (by rintro ⟨A, H, N⟩; simp) (k := k1) (st := st) (x := x) (y := y) (z := z) (m := m) hst (lock _ 0 (by simp) (by simp) (by simp) (by simp) (by simp) (by simp) (by simp [hat]) (by simp) (by simp) (by simp [hz, hz0]) (by simp))
end

theorem cells_contract (al : List AV) (hl : al.length = Try.f7.params.size) (h : ∀ (i : Nat) (t : TypeId) (a : AV), Try.f7.params[i]? = some t → al[i]? = some a → Arg Try.prog t a) :
    ACall Try.prog 7 al noHeap 0 (fun r _ _ => r = .lit (.bool true)) := by
  rw [Try.params7] at hl h
  match al, hl with
  | [a0, a1, a2, a3, a4], _ =>
    obtain ⟨k0, l, rfl, hl0⟩ := arg_globs (h 0 _ _ rfl rfl)
    obtain ⟨k1, st, rfl, hl1⟩ := arg_steps (h 1 _ _ rfl rfl)
    obtain ⟨x, rfl, hx⟩ := arg_int (h 2 _ _ rfl rfl)
    obtain ⟨y, rfl, hy⟩ := arg_int (h 3 _ _ rfl rfl)
    obtain ⟨z, rfl, hz⟩ := arg_int (h 4 _ _ rfl rfl)
    refine acallF mixed c7 (by simp) fun hF => ?_
    by_cases hbig : (20 : Int) < (l.length : Int)
    · simp [a7, hbig]
      refine p15.acall ?_
      simp
    · by_cases hbig2 : (100 : Int) < (st.length : Int)
      · simp [a7, hbig, hbig2]
        refine p15.acall ?_
        simp
      · simp [a7, hbig, hbig2]
        refine p15.acall ?_
        simp
        refine (p20 k0 l (by omega) 4 0).monoF ?_
        intro r H1 N1 hr hF1 _
        unfold NewAns at hr
        split at hr
        · subst hr
          simp [nilOf]
        · rw [if_neg (by omega)] at hr
          obtain ⟨m, hid, cid, rids, rfl, hM⟩ := hr
          simp
          refine there_piece (l := l) (k0 := k0) (x := x) (y := y) (by omega) (by rename_i hb; simpa using hb) (by simp) (by simp) (by simp) (fun A' hA' h13 => ?_)
          simp at hA'
          obtain ⟨e0, e1, e2, e3, e4, e11⟩ := hA'
          exact want_piece (k1 := k1) (st := st) (z := z) (by omega) hM hF1 e0 e1 e2 e3 e4 e11 h13
end Go.Proofs.Ytmgmgeijfkcglaa
