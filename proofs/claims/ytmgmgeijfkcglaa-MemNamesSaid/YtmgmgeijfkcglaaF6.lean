/- Framework, part 6: slicing, stores, new memory. -/
import Derived.Test.YtmgmgeijfkcglaaF5
namespace Go.Fw
set_option linter.unusedSimpArgs false
set_option linter.unusedVariables false
open Go
set_option linter.unusedSectionVars false
variable [Globals]

section
variable {P : Program} {e : Env} {H : AHeap}

/-- A bound of a slice expression, or what stands for none. -/
def bnd (d : Int) : Option AV → Option Int
  | none => some d
  | some (.lit (.int _ i)) => some i
  | _ => none

def RB (v : Option Value) (d i : Int) : Prop := (v = none ∧ i = d) ∨ ∃ k, v = some (.int k i)

/-- Operands that may be left out. -/
inductive RepO (e : Env) : Option AV → Option Value → Prop where
  | none : RepO e none none
  | some {a : AV} {v : Value} (h : Rep e a v) : RepO e (some a) (some v)

theorem rb_of {d i : Int} {x : Option AV} {v : Option Value} (h : bnd d x = some i) (r : RepO e x v) : RB v d i := by
  unfold bnd at h
  split at h
  · cases h; cases r; exact .inl ⟨rfl, rfl⟩
  · cases h; cases r with | some hr => cases hr; exact .inr ⟨_, rfl⟩
  · cases h

theorem sliceBounds_run {lo hi : Option Value} {n cap : Nat} {l h : Int} (hlo : RB lo 0 l) (hhi : RB hi n h) (h0 : 0 ≤ l) (h1 : l ≤ h) (h2 : h ≤ n) (h3 : n ≤ cap) (w : World) (b : Bool) :
    (Instr.sliceBounds b n cap lo hi none).run P w = .ok (l.toNat, h.toNat, cap) w := by
  obtain ⟨l, rfl⟩ := Int.eq_ofNat_of_zero_le h0
  obtain ⟨h, rfl⟩ := Int.eq_ofNat_of_zero_le (show 0 ≤ h by omega)
  have e2 : h ≤ cap := by omega
  have e3 : l ≤ h := by omega
  have e4 : l ≤ n := by omega
  simp only [Int.toNat_natCast]
  rcases hlo with ⟨rfl, hl⟩ | ⟨k, rfl⟩ <;> rcases hhi with ⟨rfl, hh⟩ | ⟨k', rfl⟩
  · obtain rfl : l = 0 := by omega
    obtain rfl : h = n := by omega
    simp [Instr.sliceBounds]
  · obtain rfl : l = 0 := by omega
    simp [Instr.sliceBounds, Instr.sliceBound, asIntOf, e2]
  · obtain rfl : h = n := by omega
    simp [Instr.sliceBounds, Instr.sliceBound, asIntOf, e4]
  · simp [Instr.sliceBounds, Instr.sliceBound, asIntOf, e2, e3]

theorem sliceBounds_run3 {lo : Option Value} {n cap : Nat} {l h m : Int} {kh km : IntKind} (hlo : RB lo 0 l) (h0 : 0 ≤ l) (h1 : l ≤ h) (h2 : h ≤ m) (h3 : m ≤ cap) (w : World) (b : Bool) :
    (Instr.sliceBounds b n cap lo (some (.int kh h)) (some (.int km m))).run P w = .ok (l.toNat, h.toNat, m.toNat) w := by
  obtain ⟨l, rfl⟩ := Int.eq_ofNat_of_zero_le h0
  obtain ⟨h, rfl⟩ := Int.eq_ofNat_of_zero_le (show 0 ≤ h by omega)
  obtain ⟨m, rfl⟩ := Int.eq_ofNat_of_zero_le (show 0 ≤ m by omega)
  have e1 : m ≤ cap := by omega
  have e2 : h ≤ m := by omega
  have e3 : l ≤ h := by omega
  simp only [Int.toNat_natCast]
  rcases hlo with ⟨rfl, hl⟩ | ⟨k, rfl⟩
  · obtain rfl : l = 0 := by omega
    simp [Instr.sliceBounds, Instr.sliceBound, asIntOf, e1, e2]
  · simp [Instr.sliceBounds, Instr.sliceBound, asIntOf, e1, e2, e3]

def askind (k : SK) (ex : Bool) : SK := if k = .nil then .nil else if ex = true then .exact else .any

/-- A slice of a slice. -/
def aslice (sz : Nat) (x : AV) (lo hi mx : Option AV) : Option AV :=
  match x with
  | .sl k sz' es =>
    match bnd 0 lo, bnd es.length hi, mx with
    | some l, some h, none => if (sz' = sz ∨ es = []) ∧ 0 ≤ l ∧ l ≤ h ∧ h ≤ (es.length : Int) then some (.sl (askind k false) sz' ((es.drop l.toNat).take (h.toNat - l.toNat))) else none
    | some l, some h, some (.lit (.int _ m)) => if hi.isSome = true ∧ (sz' = sz ∨ es = []) ∧ 0 ≤ l ∧ l ≤ h ∧ h ≤ m ∧ m ≤ (es.length : Int) then some (.sl (askind k (decide (h = m))) sz' ((es.drop l.toNat).take (h.toNat - l.toNat))) else none
    | _, _, _ => none
  | .ms id off len sz' =>
    match bnd 0 lo, bnd len hi, mx with
    | some l, some h, none => if sz' = sz ∧ 0 ≤ l ∧ l ≤ h ∧ h ≤ (len : Int) then some (.ms id (off + l.toNat * sz) (h.toNat - l.toNat) sz) else none
    | some l, some h, some (.lit (.int _ m)) => if hi.isSome = true ∧ sz' = sz ∧ 0 ≤ l ∧ l ≤ h ∧ h ≤ m ∧ m ≤ (len : Int) then some (.ms id (off + l.toNat * sz) (h.toNat - l.toNat) sz) else none
    | _, _, _ => none
  | _ => none

/-- A slice of a slice that nobody writes. -/
theorem rep_sl_cut {k : SK} {sz : Nat} {es : List (List AV)} {v : Value} (h : Rep e (.sl k sz es) v) {l hh : Nat} (h1 : l ≤ hh) (h2 : hh ≤ es.length)
    {size : Nat} (hs : sz = size ∨ es = []) : ∃ a c, v = .slice a es.length c ∧ es.length ≤ c ∧
      (∀ (m : Nat) (ex : Bool), hh ≤ m → (ex = true → m = hh) → m ≤ c → Rep e (.sl (askind k ex) sz ((es.drop l).take (hh - l))) (.slice (if m = l then a else a.map (·.add (l * size))) (hh - l) (m - l))) := by
  rcases rep_sl_inv h with ⟨rfl, rfl, rfl⟩ | ⟨hk, b, o, cap, rfl, hcap, hexx, hI, hsz, hm⟩ | ⟨hk, rfl, ad, rfl⟩
  rotate_right
  · refine ⟨_, _, rfl, Nat.le_refl _, fun m ex h3 hex hmc => ?_⟩
    simp only [List.length_nil, Nat.le_zero] at h2
    have hm0 : m = 0 := by omega
    have hl0 : l = 0 := by omega
    subst h2; subst hm0; subst hl0
    simp only [if_true, List.drop_nil, List.take_nil, Nat.sub_self]
    exact .slE (by simp only [askind, if_neg hk]; split <;> simp)
  · refine ⟨_, _, rfl, Nat.le_refl _, fun m ex h3 hex hmc => ?_⟩
    simp only [List.length_nil, Nat.le_zero] at h2
    have hm0 : m = 0 := by omega
    have hl0 : l = 0 := by omega
    subst h2; subst hm0; subst hl0
    simp only [askind, if_true, List.drop_nil, List.take_nil, Nat.sub_self, Option.map_none, ite_self]
    exact .slNil sz
  · refine ⟨_, _, rfl, hcap, fun m ex h3 hex hmc => ?_⟩
    have hlen : ((es.drop l).take (hh - l)).length = hh - l := by simp; omega
    have hsub : ∀ x ∈ (es.drop l).take (hh - l), x ∈ es := fun x hx => List.mem_of_mem_drop (List.mem_of_mem_take hx)
    by_cases hml : m = l
    · rw [if_pos hml]
      have h0 : hh - l = 0 := by omega
      have hes : (es.drop l).take (hh - l) = [] := by rw [h0]; rfl
      have := rep_sl_intro (e := e) (k := askind k ex) (sz := sz) (es := (es.drop l).take (hh - l)) (b := b) (o := o) (cap := m - l)
        (by simp only [askind, if_neg hk]; split <;> simp) (fun hne => absurd hes hne) (by rw [hes]; exact Nat.zero_le _) (fun _ => by rw [hes]; simp; omega)
        (fun x hx => hsz x (hsub x hx)) (fun i x hi => by rw [hes] at hi; simp at hi)
      rw [hlen] at this
      exact this
    · rw [if_neg hml]
      simp only [Option.map_some, addr_add]
      have := rep_sl_intro (e := e) (k := askind k ex) (sz := sz) (es := (es.drop l).take (hh - l)) (b := b) (o := o + l * size) (cap := m - l)
        (by simp only [askind, if_neg hk]; split <;> simp) (fun hne => hI (fun h0 => hne (by rw [h0]; simp))) (by rw [hlen]; omega)
        (fun hx => by
          simp only [askind, if_neg hk] at hx
          split at hx
          · rename_i he; have := hex he; rw [hlen]; omega
          · cases hx)
        (fun x hx => hsz x (hsub x hx))
        (fun i x hi => by
          rw [List.getElem?_take] at hi
          split at hi
          · rw [List.getElem?_drop] at hi
            rcases hs with rfl | rfl
            · have h4 := hm (l + i) x hi
              rw [Nat.add_mul] at h4
              rw [Nat.add_assoc]
              exact h4
            · simp at hi
          · cases hi)
      rw [hlen] at this
      exact this

theorem aslice_run {t el : TypeId} (ht : P.underlying t = some (.slice el)) {sz : Nat} (hs : (P.info? el).map (·.size) = some sz) {x r : AV} {lo hi mx : Option AV} {v : Value} {vlo vhi vmx : Option Value}
    (h : aslice sz x lo hi mx = some r) (hx : Rep e x v) (hlo : RepO e lo vlo) (hhi : RepO e hi vhi) (hmx : RepO e mx vmx) :
    ∃ u, (Instr.sliceAt t v vlo vhi vmx).run P e.w = .ok u e.w ∧ Rep e r u := by
  obtain ⟨ti, hti, hsz⟩ := size_info hs
  unfold aslice at h
  split at h
  · rename_i k sz' es
    split at h
    · rename_i l hh hl hhb
      split at h
      · rename_i hc
        obtain ⟨hz, h0, h1, h2⟩ := hc
        cases h
        cases hmx
        obtain ⟨a, c, rfl, hle, hrep⟩ := rep_sl_cut hx (l := l.toNat) (hh := hh.toNat) (by omega) (by omega) hz
        refine ⟨_, ?_, hrep c false (by omega) (fun h => by cases h) (Nat.le_refl _)⟩
        have hb := sliceBounds_run (P := P) (rb_of hl hlo) (rb_of hhb hhi) h0 h1 h2 hle e.w true
        simp [Instr.sliceAt, Instr.slice, run_underlying ht, hb, sizeOf, typeInfo, hti, hsz]
      · cases h
    · rename_i l hh km m hl hhb
      split at h
      · rename_i hc
        obtain ⟨hsome, hz, h0, h1, h2, h3⟩ := hc
        cases h
        cases hmx
        rename_i hr
        cases hr
        cases hhi with
        | none => simp at hsome
        | some hr2 =>
          rename_i ah vh
          have hrb := rb_of hhb (.some hr2)
          rcases hrb with ⟨h4, _⟩ | ⟨kh, h4⟩
          · cases h4
          · cases h4
            obtain ⟨a, c, rfl, hle, hrep⟩ := rep_sl_cut hx (l := l.toNat) (hh := hh.toNat) (by omega) (by omega) hz
            refine ⟨_, ?_, hrep m.toNat (decide (hh = m)) (by omega) (fun h => by simp at h; omega) (by omega)⟩
            have hb := sliceBounds_run3 (P := P) (n := es.length) (cap := c) (kh := kh) (km := km) (rb_of hl hlo) h0 h1 h2 (by omega) e.w true
            simp [Instr.sliceAt, Instr.slice, run_underlying ht, hb, sizeOf, typeInfo, hti, hsz]
      · cases h
    · cases h
  · rename_i id off len sz'
    split at h
    · rename_i l hh hl hhb
      split at h
      · rename_i hc
        obtain ⟨rfl, h0, h1, h2⟩ := hc
        cases h
        cases hmx
        obtain ⟨hid, ad, cap, hsp, rfl, hlen, hroom⟩ := rep_ms_inv hx
        have hb := sliceBounds_run (P := P) (rb_of hl hlo) (rb_of hhb hhi) h0 h1 h2 hlen e.w true
        refine ⟨.slice (if cap = l.toNat then some ad else some (ad.add (l.toNat * sz'))) (hh.toNat - l.toNat) (cap - l.toNat), ?_, ?_⟩
        · simp [Instr.sliceAt, Instr.slice, run_underlying ht, hb, sizeOf, typeInfo, hti, hsz]
        · by_cases hcl : cap = l.toNat
          · rw [if_pos hcl]
            exact .ms hid (by omega) (.inl (by omega))
          · rw [if_neg hcl]
            rcases hroom with h3 | ⟨rfl, c, ty, fz, h3, h4⟩
            · omega
            · rw [addr_add]
              refine .ms hid (by omega) (.inr ⟨by rw [Nat.add_assoc], c, ty, fz, h3, ?_⟩)
              have : l.toNat * sz' + (cap - l.toNat) * sz' = cap * sz' := by rw [← Nat.add_mul]; congr 1; omega
              omega
      · cases h
    · rename_i l hh km m hl hhb
      split at h
      · rename_i hc
        obtain ⟨hsome, rfl, h0, h1, h2, h3⟩ := hc
        cases h
        cases hmx
        rename_i hr
        cases hr
        cases hhi with
        | none => simp at hsome
        | some hr2 =>
          rename_i ah vh
          have hrb := rb_of hhb (.some hr2)
          rcases hrb with ⟨h4, _⟩ | ⟨kh, h4⟩
          · cases h4
          · cases h4
            obtain ⟨hid, ad, cap, hsp, rfl, hlen, hroom⟩ := rep_ms_inv hx
            have hb := sliceBounds_run3 (P := P) (n := len) (cap := cap) (kh := kh) (km := km) (rb_of hl hlo) h0 h1 h2 (by omega) e.w true
            refine ⟨.slice (if m.toNat = l.toNat then some ad else some (ad.add (l.toNat * sz'))) (hh.toNat - l.toNat) (m.toNat - l.toNat), ?_, ?_⟩
            · simp [Instr.sliceAt, Instr.slice, run_underlying ht, hb, sizeOf, typeInfo, hti, hsz]
            · by_cases hcl : m.toNat = l.toNat
              · rw [if_pos hcl]
                exact .ms hid (by omega) (.inl (by omega))
              · rw [if_neg hcl]
                rcases hroom with h5 | ⟨rfl, c, ty, fz, h5, h6⟩
                · omega
                · rw [addr_add]
                  refine .ms hid (by omega) (.inr ⟨by rw [Nat.add_assoc], c, ty, fz, h5, ?_⟩)
                  have : l.toNat * sz' + (m.toNat - l.toNat) * sz' = m.toNat * sz' := by rw [← Nat.add_mul]; congr 1; omega
                  have : m.toNat * sz' ≤ cap * sz' := Nat.mul_le_mul_right _ (by omega)
                  omega
      · cases h
    · cases h
  · cases h

end
end Go.Fw
