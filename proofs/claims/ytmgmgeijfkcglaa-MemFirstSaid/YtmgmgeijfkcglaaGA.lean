/- Framework, part 10c: copy; the greater and the lesser of two numbers. -/
import Derived.Test.YtmgmgeijfkcglaaG0
namespace Go.Fw
set_option linter.unusedSimpArgs false
set_option linter.unusedVariables false
open Go
set_option linter.unusedSectionVars false
variable [Globals]

def alenS : AV → Option Nat
  | .sl _ _ es => some es.length
  | .ms _ _ len _ => some len
  | _ => none

/-- The first cells of a slice. -/
def asrcN (H : AHeap) (sz n : Nat) : AV → Option (List AV)
  | .sl _ sz' es => if (sz' = sz ∨ es = []) ∧ n ≤ es.length then some (es.take n).flatten else none
  | .ms id off len sz' => match H id with
    | some (.blk cs) => if sz' = sz ∧ off + len * sz ≤ cs.length ∧ n ≤ len then some ((cs.drop off).take (n * sz)) else none
    | _ => none
  | _ => none

def acopy (H : AHeap) (sz : Nat) (x y : AV) : Option (Nat × AHeap) :=
  match alenS y, x with
  | some m, .ms id off len sz' => match asrcN H sz (min m len) y, H id with
    | some news, some (.blk cs) => if sz' = sz ∧ off + len * sz ≤ cs.length then some (min m len, H.set id (.blk (splice off news cs))) else none
    | _, _ => none
  | _, _ => none

section
variable {P : Program} {e : Env} {H : AHeap}

theorem alenS_run {y : AV} {v : Value} {m : Nat} (h : alenS y = some m) (hy : Rep e y v) (w : World) : (Builtin.lenOf v).run P w = .ok m w := by
  unfold alenS at h
  split at h
  · cases h
    rcases rep_sl_inv hy with ⟨_, rfl, rfl⟩ | ⟨_, b, o, cap, rfl, _⟩ | ⟨_, rfl, _, rfl⟩ <;> simp [Builtin.lenOf]
  · cases h
    obtain ⟨_, ad, cap, _, rfl, _⟩ := rep_ms_inv hy
    simp [Builtin.lenOf]
  · cases h

theorem asrcN_run (hH : HRep e H) {sz n : Nat} {x : AV} {v : Value} {cs : List AV} (h : asrcN H sz n x = some cs) (hx : Rep e x v) :
    ∃ us, RelC e cs us ∧ cs.length = n * sz ∧ us.length = n * sz ∧ (Builtin.firstCells sz n v).run P e.w = .ok us.toArray e.w := by
  unfold asrcN at h
  split at h
  · rename_i k sz' es
    split at h
    · rename_i hc
      obtain ⟨hsz, hn⟩ := hc
      cases h
      rcases rep_sl_inv hx with ⟨rfl, rfl, rfl⟩ | ⟨hk, b, o, cap, rfl, hcap, hex, hI, hel, hm⟩ | ⟨hk, rfl, ad, rfl⟩
      rotate_right
      · obtain rfl : n = 0 := by simpa using hn
        exact ⟨[], ⟨rfl, fun i a u ha => by simp at ha⟩, by simp, by simp, run_firstCells_some (P := P) e.w sz 0 ad 0 0 [] (by simp) (fun j u hu => by simp at hu)⟩
      · obtain rfl : n = 0 := by simpa using hn
        exact ⟨[], ⟨rfl, fun i a u ha => by simp at ha⟩, by simp, by simp, run_firstCells_none (P := P) e.w sz 0 0 0⟩
      · rcases hsz with rfl | rfl
        · have hel' : ∀ x ∈ es.take n, x.length = sz' := fun x hx => hel x (List.mem_of_mem_take hx)
          have hl := length_flatten_eq hel'
          rw [List.length_take, Nat.min_eq_left hn] at hl
          obtain ⟨us, h1, h2, h3, h4⟩ := src_of_mem (P := P) (e := e) (c := cap) (m := n) hl (flatten_memAt hel' (fun i x hi => hm i x (by
            rw [List.getElem?_take] at hi
            split at hi
            · exact hi
            · cases hi)))
          exact ⟨us, h1, hl, h3, h4 e.w rfl⟩
        · obtain rfl : n = 0 := by simpa using hn
          obtain ⟨us, h1, h2, h3, h4⟩ := src_of_mem (P := P) (e := e) (sz := sz) (m := 0) (b := b) (o := o) (c := cap) (cs := []) (by simp) (fun j c hj => by simp at hj)
          exact ⟨us, h1, by simp, h3, h4 e.w rfl⟩
    · cases h
  · rename_i id off len sz'
    split at h
    · rename_i cs' hid
      split at h
      · rename_i hc
        obtain ⟨rfl, hle, hn⟩ := hc
        cases h
        obtain ⟨_, ad, cap, hsp, rfl, hlen, hroom⟩ := rep_ms_inv hx
        have hmul : n * sz' ≤ len * sz' := Nat.mul_le_mul_right _ hn
        have hl : ((cs'.drop off).take (n * sz')).length = n * sz' := by simp; omega
        rcases hroom with h0 | ⟨rfl, _⟩
        · have h00 : n = 0 := by omega
          subst h00
          obtain ⟨b, o, s⟩ := ad
          refine ⟨[], ⟨by simp, fun i a u ha => by simp at ha⟩, by simp, by simp, ?_⟩
          exact run_firstCells_some (P := P) e.w sz' 0 ⟨b, o, s⟩ len cap [] (by simp) (fun j u hu => by simp at hu)
        · obtain ⟨us, h1, h2, h3, h4⟩ := src_of_mem (P := P) (e := e) (m := n) (b := (e.ρ id).1) (o := (e.ρ id).2 + off) (c := cap) hl (fun j c hj => by
            rw [List.getElem?_take] at hj
            split at hj
            · rw [List.getElem?_drop] at hj
              have := memAt_obj hH hid _ c hj
              rwa [Nat.add_assoc]
            · cases hj)
          exact ⟨us, h1, hl, h3, h4 e.w rfl⟩
      · cases h
    · cases h
  · cases h

theorem set_self {id : Nat} {o : AObj} (h : H id = some o) : H.set id o = H := by
  funext i
  simp only [AHeap.set]
  split
  · rename_i hi; rw [hi, h]
  · rfl

theorem acopy_run (hH : HRep e H) {t t' ty el : TypeId} {sz : Nat} (ht : P.underlying t = some (.slice el)) (hs : (P.info? el).map (·.size) = some sz) {x y : AV} {n : Nat} {H' : AHeap} {vx vy : Value}
    (h : acopy H sz x y = some (n, H')) (hx : Rep e x vx) (hy : Rep e y vy) :
    ∃ e', (Builtin.copy_ #[t, t'] ty #[vx, vy]).run P e.w = .ok (.int .i64 n) e'.w ∧ HRep e' H' ∧ e'.N = e.N ∧ Tr e H e' H' := by
  obtain ⟨ti, hti, hsz⟩ := size_info hs
  unfold acopy at h
  split at h
  · rename_i m id off len sz' hm
    split at h
    · rename_i news cs hnews hid
      split at h
      · rename_i hc
        obtain ⟨rfl, hle⟩ := hc
        simp only [Option.some.injEq, Prod.mk.injEq] at h
        obtain ⟨rfl, rfl⟩ := h
        obtain ⟨us, h1, h2, h3, h4⟩ := asrcN_run (P := P) hH hnews hy
        obtain ⟨_, ad, cap, hsp, rfl, hlen, hroom⟩ := rep_ms_inv hx
        have hlo := alenS_run (P := P) hm hy e.w
        have hnl : min m len * sz' ≤ len * sz' := Nat.mul_le_mul_right _ (Nat.min_le_right _ _)
        have run : ∀ w', (storeCells ad us).run P e.w = .ok () w' → (Builtin.copy_ #[t, t'] ty #[.slice (some ad) len cap, vy]).run P e.w = .ok (.int .i64 (min m len : Nat)) w' := fun w' hw => by
          simp only [Nat.min_def] at h4 ⊢
          simp [Builtin.copy_, run_underlying ht, hlo, sizeOf, run_typeInfo _ hti, hsz, Nat.min_def, h4, hw, goInt]
        rcases hroom with h0 | ⟨rfl, _⟩
        · have hl0 : len = 0 := by omega
          subst hl0
          have hn0 : news = [] := List.eq_nil_of_length_eq_zero (by rw [Nat.min_zero, Nat.zero_mul] at h2; exact h2)
          have hu0 : us = [] := List.eq_nil_of_length_eq_zero (by rw [Nat.min_zero, Nat.zero_mul] at h3; exact h3)
          subst hn0; subst hu0
          have hsp : splice off [] cs = cs := by simp [splice]
          rw [hsp, set_self hid]
          exact ⟨e, run e.w rfl, hH, rfl, .refl e H⟩
        · obtain ⟨hN, hI, c, t0, hg, hle0, hm'⟩ := hH.at_ id _ hid
          have hone : ∀ u ∈ us, u.oneCell' = true := fun u hu => by
            obtain ⟨i, hi, rfl⟩ := List.getElem_of_mem hu
            have hi' : i < news.length := by omega
            exact (h1.2 i news[i] us[i] (by simp [hi']) (by simp [hi])).1
          obtain ⟨k1, k2⟩ := orep_store (us := us) hH hid hg (by omega) (off := off) (vcs := news) (by omega) h1.2
          refine ⟨_, run _ ?_, hrep_setRow hH hid hg k1 k2, rfl, tr_setRow hH _ hid hg k1⟩
          have hst := run_storeCells_at P (e.ρ id).1 ((e.ρ id).2 + off) t0 us 0 c e.w hg (by simp; omega) hone
          simp only [Nat.add_zero] at hst
          simpa [Env.setRow] using hst
      · cases h
    · cases h
  · cases h

def amm (mx : Bool) (x y : AV) : Option AV :=
  match x, y with
  | .lit (.int k a), .lit (.int _ b) => some (.lit (.int k (bif mx then (if b > a then b else a) else (if b < a then b else a))))
  | _, _ => none

theorem amm_run {mx : Bool} {x y r : AV} {vx vy : Value} (h : amm mx x y = some r) (hx : Rep e x vx) (hy : Rep e y vy) (ts : Array TypeId) (ty : TypeId) :
    ∃ u, (bif mx then Builtin.max_ ts ty #[vx, vy] else Builtin.min_ ts ty #[vx, vy]).run P e.w = .ok u e.w ∧ Rep e r u := by
  unfold amm at h
  split at h
  · cases h; cases hx; cases hy
    cases mx
    · exact ⟨_, by simp [Builtin.min_, Builtin.min2], .lit _⟩
    · exact ⟨_, by simp [Builtin.max_, Builtin.max2], .lit _⟩
  · cases h

theorem amm3_run {mx : Bool} {x y z r : AV} {vx vy vz : Value} (h : ((amm mx x y).bind fun r => amm mx r z) = some r) (hx : Rep e x vx) (hy : Rep e y vy) (hz : Rep e z vz) (ts : Array TypeId) (ty : TypeId) :
    ∃ u, (bif mx then Builtin.max_ ts ty #[vx, vy, vz] else Builtin.min_ ts ty #[vx, vy, vz]).run P e.w = .ok u e.w ∧ Rep e r u := by
  obtain ⟨q, h1, h2⟩ := Option.bind_eq_some_iff.1 h
  unfold amm at h1 h2
  split at h1
  · cases h1; cases hx; cases hy
    split at h2
    · rename_i heq
      cases heq
      cases h2; cases hz
      cases mx
      · exact ⟨_, by simp [Builtin.min_, Builtin.min2], .lit _⟩
      · exact ⟨_, by simp [Builtin.max_, Builtin.max2], .lit _⟩
    · cases h2
  · cases h1

end
end Go.Fw
