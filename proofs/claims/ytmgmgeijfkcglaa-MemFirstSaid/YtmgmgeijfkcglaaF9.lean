/- Framework, part 9: make, append. -/
import Derived.Test.YtmgmgeijfkcglaaF8
namespace Go.Fw
set_option linter.unusedSimpArgs false
set_option linter.unusedVariables false
open Go
set_option linter.unusedSectionVars false
variable [Globals]

section
variable {P : Program} {e : Env} {H : AHeap}

/-- An object given up. -/
theorem hrep_del (hH : HRep e H) (id : Nat) : HRep e (H.del id) where
  at_ := fun i o hi => by
    simp only [AHeap.del] at hi
    split at hi
    · cases hi
    · exact hH.at_ i o hi
  inj := fun i j o o' hi hj hij => by
    simp only [AHeap.del] at hi hj
    split at hi
    · cases hi
    · split at hj
      · cases hj
      · exact hH.inj i j o o' hi hj hij
  imm := hH.imm
  gl := hH.gl

theorem own_del {id b : Nat} (h : Own e (H.del id) b) : Own e H b := by
  obtain ⟨i, o, h1, h2⟩ := h
  simp only [AHeap.del] at h1
  split at h1
  · cases h1
  · exact ⟨i, o, h1, h2⟩

theorem tr_del {e' : Env} {H' : AHeap} (h : Tr e H e' H') (id : Nat) : Tr e H e' (H'.del id) :=
  ⟨h.ext, h.fr, fun b hb => h.own b (own_del hb), h.im, h.size, h.os, h.tape, h.output⟩

theorem del_set {id N : Nat} {o : AObj} (h : id ≠ N) : (H.set N o).del id = (H.del id).set N o := by
  funext i
  simp only [AHeap.set, AHeap.del]
  by_cases h1 : i = id
  · subst h1; simp [h]
  · simp [h1]

/-- 'make'. -/
def amake (sz bytes : Nat) (zs : List AV) (l c : AV) : Option (Nat × Nat) :=
  match l, c with
  | .lit (.int _ l), .lit (.int _ c) => if 0 ≤ l ∧ l ≤ c ∧ (bytes : Int) * c ≤ 281474976710656 ∧ c ≤ 9223372036854775807 ∧ zs.length = sz then some (l.toNat, c.toNat) else none
  | _, _ => none

theorem get_madeCells {z : Array Value} {n j : Nat} (hj : j < n) (hz : 0 < z.size) : (madeCells z n)[j]? = z[j % z.size]? := by
  have hm : j % z.size < z.size := Nat.mod_lt _ hz
  simp [madeCells, hj, hm]

theorem relC_made {zs : List AV} {z : Value} (hz : RelC e zs z.cells.toList) : ∀ l c : Nat, l ≤ c →
    RelC e ((List.replicate l zs).flatten) ((madeCells z.cells (c * zs.length)).toList.take (l * zs.length)) := by
  intro l c hlc
  have hzl : z.cells.size = zs.length := by have := hz.1; simpa using this
  have hlc' : l * zs.length ≤ c * zs.length := Nat.mul_le_mul_right _ hlc
  have hlen : ∀ n : Nat, ((List.replicate n zs).flatten).length = n * zs.length := fun n => by simp
  have hm : (madeCells z.cells (c * zs.length)).toList.length = c * zs.length := by simp [size_madeCells]
  refine ⟨by rw [hlen, List.length_take, hm]; omega, fun i a u ha hu => ?_⟩
  have hi : i < l * zs.length := by have := (List.getElem?_eq_some_iff.1 ha).1; rwa [hlen] at this
  have h0 : 0 < zs.length := by
    rcases Nat.eq_zero_or_pos zs.length with h | h
    · rw [h] at hi; omega
    · exact h
  rw [List.getElem?_take, if_pos hi, Array.getElem?_toList, get_madeCells (by omega) (by omega), hzl] at hu
  have hget : ∀ n i : Nat, i < n * zs.length → ((List.replicate n zs).flatten)[i]? = zs[i % zs.length]? := by
    intro n
    induction n with
    | zero => intro i hi; omega
    | succ n ih =>
      intro i hi
      rw [List.replicate_succ, List.flatten_cons]
      by_cases h1 : i < zs.length
      · rw [List.getElem?_append_left h1, Nat.mod_eq_of_lt h1]
      · rw [List.getElem?_append_right (by omega), ih _ (by rw [Nat.add_mul] at hi; omega)]
        congr 1
        rw [← Nat.mod_eq_sub_mod (by omega)]
  rw [hget l i hi] at ha
  exact hz.2 _ a u ha (by simpa using hu)

theorem make_run (hH : HRep e H) {t el : TypeId} (ht : P.underlying t = some (.slice el)) {ti : TypeInfo} (hi : P.info? el = some ti) {z : Value} (hz : ti.zero = some z)
    {zs : List AV} (hzs : RelC e zs z.cells.toList) {l c : AV} {vl vc : Value} {n m : Nat} (h : amake ti.size ti.bytes zs l c = some (n, m)) (hl : Rep e l vl) (hc : Rep e c vc) :
    ∃ u e', (Instr.makeSlice t vl vc).run P e.w = .ok u e'.w ∧ Rep e' (.ms e.N 0 n ti.size) u ∧ HRep e' (H.set e.N (.blk ((List.replicate n zs).flatten))) ∧ e'.N = e.N + 1 ∧
      Tr e H e' (H.set e.N (.blk ((List.replicate n zs).flatten))) := by
  unfold amake at h
  split at h
  · rename_i kl l kc c
    split at h
    · rename_i hcond
      obtain ⟨h0, h1, h2, h3, h4⟩ := hcond
      simp only [Option.some.injEq, Prod.mk.injEq] at h
      obtain ⟨rfl, rfl⟩ := h
      cases hl; cases hc
      have hrun := run_make (P := P) e.w t el ti z ht hi hz kl kc l c h0 h1 h2 h3
      have hrel := relC_made hzs l.toNat c.toNat (by omega)
      rw [h4] at hrel
      have hcells : (madeCells z.cells (c.toNat * ti.size)) = ((madeCells z.cells (c.toNat * ti.size)).toList.take (l.toNat * ti.size) ++ (madeCells z.cells (c.toNat * ti.size)).toList.drop (l.toNat * ti.size)).toArray := by
        rw [List.take_append_drop]
      rw [hcells] at hrun
      obtain ⟨g1, g2⟩ := new_obj hH el (rest := (madeCells z.cells (c.toNat * ti.size)).toList.drop (l.toNat * ti.size)) hrel.1 hrel.2
      refine ⟨_, _, hrun, rep_new_ms el (by omega) ?_, g1, rfl, g2⟩
      rw [List.take_append_drop]
      simp [size_madeCells]
    · cases h
  · cases h

/-- What is appended: its cells, and how many elements. -/
def asrc (H : AHeap) (sz : Nat) : AV → Option (List AV × Nat)
  | .sl _ sz' es => if sz' = sz ∨ es = [] then some (es.flatten, es.length) else none
  | .ms id off len sz' => match H id with
    | some (.blk cs) => if sz' = sz ∧ off + len * sz ≤ cs.length then some ((cs.drop off).take (len * sz), len) else none
    | _ => none
  | _ => none

/-- The cells of a slice, as the model finds them. -/
def Src (P : Program) (e : Env) (sz : Nat) (v : Value) (m : Nat) (us : List Value) : Prop :=
  (∃ a c, v = .slice a m c) ∧ us.length = m * sz ∧ ∀ w : World, w.heap = e.w.heap → (Builtin.firstCells sz m v).run P w = .ok us.toArray w

theorem memAt_list {b o : Nat} {cs : List AV} (hm : MemAt e b o cs) : ∃ us : List Value, RelC e cs us ∧ ∀ (j : Nat) (u : Value), us[j]? = some u → e.w.cell? ⟨b, o + j, none⟩ = some u := by
  refine ⟨(List.range cs.length).map fun j => (e.w.cell? ⟨b, o + j, none⟩).getD undef, ⟨by simp, fun i a u ha hu => ?_⟩, fun j u hu => ?_⟩
  · have hi : i < cs.length := (List.getElem?_eq_some_iff.1 ha).1
    obtain ⟨v, h1, h2, h3⟩ := hm i a ha
    simp [hi, h1] at hu
    subst hu
    exact ⟨h2, h3⟩
  · rw [List.getElem?_map] at hu
    cases hr : (List.range cs.length)[j]? with
    | none => simp [hr] at hu
    | some k =>
      have hj : j < cs.length := by have := (List.getElem?_eq_some_iff.1 hr).1; simpa using this
      have hk : j = k := by have := (List.getElem?_eq_some_iff.1 hr).2; simpa using this
      subst hk
      simp [hr] at hu
      obtain ⟨v, h1, h2, h3⟩ := hm j cs[j] (by simp [hj])
      rw [h1] at hu ⊢
      simpa using hu

theorem src_of_mem {sz m b o c : Nat} {cs : List AV} (hl : cs.length = m * sz) (hm : MemAt e b o cs) :
    ∃ us, RelC e cs us ∧ Src P e sz (.slice (some ⟨b, o, none⟩) m c) m us := by
  obtain ⟨us, h1, h2⟩ := memAt_list hm
  refine ⟨us, h1, ⟨_, _, rfl⟩, by rw [h1.1, hl], fun w hw => ?_⟩
  refine run_firstCells_some (P := P) w sz m ⟨b, o, none⟩ m c us (by rw [h1.1, hl]) (fun j u hu => ?_)
  rw [addr_add]
  rw [← h2 j u hu]
  simp [World.cell?, hw]

theorem flatten_memAt {sz b o : Nat} : ∀ {es : List (List AV)}, (∀ x ∈ es, x.length = sz) → (∀ (i : Nat) (x : List AV), es[i]? = some x → MemAt e b (o + i * sz) x) → MemAt e b o es.flatten := by
  intro es hsz hm
  have hgen : ∀ (es : List (List AV)) (o : Nat), (∀ x ∈ es, x.length = sz) → (∀ (i : Nat) (x : List AV), es[i]? = some x → MemAt e b (o + i * sz) x) → MemAt e b o es.flatten := by
    intro es
    induction es with
    | nil => intro o _ _ j c hj; simp at hj
    | cons x es ih =>
      intro o hsz hm j c hj
      rw [List.flatten_cons] at hj
      have hx := hsz x (by simp)
      by_cases h1 : j < x.length
      · rw [List.getElem?_append_left h1] at hj
        have := hm 0 x rfl j c hj
        simpa using this
      · rw [List.getElem?_append_right (by omega), hx] at hj
        have := ih (o + sz) (fun y hy => hsz y (by simp [hy])) (fun i y hi => by
          have := hm (i + 1) y (by simpa using hi)
          rw [Nat.add_mul] at this
          rw [Nat.add_assoc, Nat.add_comm sz]
          simpa using this) _ c hj
        obtain ⟨u, h2, h3, h4⟩ := this
        refine ⟨u, ?_, h3, h4⟩
        rw [← h2]
        congr 2
        omega
  exact hgen es o hsz hm

theorem length_flatten_eq {sz : Nat} : ∀ {es : List (List AV)}, (∀ x ∈ es, x.length = sz) → es.flatten.length = es.length * sz
  | [], _ => by simp
  | x :: es, h => by
    rw [List.flatten_cons, List.length_append, h x (by simp), length_flatten_eq (fun y hy => h y (by simp [hy])), List.length_cons, Nat.add_mul]
    omega

theorem asrc_run (hH : HRep e H) {sz : Nat} {x : AV} {v : Value} {cs : List AV} {m : Nat} (h : asrc H sz x = some (cs, m)) (hx : Rep e x v) :
    ∃ us, RelC e cs us ∧ cs.length = m * sz ∧ Src P e sz v m us := by
  unfold asrc at h
  split at h
  · rename_i k sz' es
    split at h
    · rename_i hsz
      simp only [Option.some.injEq, Prod.mk.injEq] at h
      obtain ⟨rfl, rfl⟩ := h
      rcases rep_sl_inv hx with ⟨rfl, rfl, rfl⟩ | ⟨hk, b, o, cap, rfl, hcap, hex, hI, hel, hm⟩ | ⟨hk, rfl, ad, rfl⟩
      rotate_right
      · exact ⟨[], ⟨rfl, fun i a u ha => by simp at ha⟩, by simp, ⟨_, _, rfl⟩, by simp, fun w _ => run_firstCells_some (P := P) w sz 0 ad 0 0 [] (by simp) (fun j u hu => by simp at hu)⟩
      · exact ⟨[], ⟨rfl, fun i a u ha => by simp at ha⟩, by simp, ⟨_, _, rfl⟩, by simp, fun w _ => run_firstCells_none (P := P) w sz 0 0 0⟩
      · rcases hsz with rfl | rfl
        · obtain ⟨us, h1, h2⟩ := src_of_mem (P := P) (c := cap) (length_flatten_eq hel) (flatten_memAt hel hm)
          exact ⟨us, h1, length_flatten_eq hel, h2⟩
        · obtain ⟨us, h1, h2⟩ := src_of_mem (P := P) (e := e) (sz := sz) (m := 0) (b := b) (o := o) (c := cap) (cs := []) (by simp) (fun j c hj => by simp at hj)
          exact ⟨us, h1, by simp, h2⟩
    · cases h
  · rename_i id off len sz'
    split at h
    · rename_i cs' hid
      split at h
      · rename_i hc
        obtain ⟨rfl, hle⟩ := hc
        simp only [Option.some.injEq, Prod.mk.injEq] at h
        obtain ⟨rfl, rfl⟩ := h
        obtain ⟨_, ad, cap, hsp, rfl, hlen, hroom⟩ := rep_ms_inv hx
        have hl : ((cs'.drop off).take (len * sz')).length = len * sz' := by simp; omega
        rcases hroom with h0 | ⟨rfl, _⟩
        · have h00 : len = 0 := by omega
          subst h00
          obtain ⟨b, o, s⟩ := ad
          refine ⟨[], ⟨by simp, fun i a u ha => by simp at ha⟩, by simp, ⟨_, _, rfl⟩, by simp, fun w _ => ?_⟩
          exact run_firstCells_some (P := P) w sz' 0 ⟨b, o, s⟩ 0 cap [] (by simp) (fun j u hu => by simp at hu)
        · obtain ⟨us, h1, h2⟩ := src_of_mem (P := P) (e := e) (b := (e.ρ id).1) (o := (e.ρ id).2 + off) (c := cap) hl (fun j c hj => by
            rw [List.getElem?_take] at hj
            split at hj
            · rw [List.getElem?_drop] at hj
              have := memAt_obj hH hid _ c hj
              rwa [Nat.add_assoc]
            · cases hj)
          exact ⟨us, h1, hl, h2⟩
      · cases h
    · cases h
  · cases h

end
end Go.Fw
