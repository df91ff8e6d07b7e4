/- Framework, part 5: addresses, slicing, stores, new memory. -/
import Derived.Test.YtmgmgeijfkcglaaF4
namespace Go.Fw
set_option linter.unusedSimpArgs false
set_option linter.unusedVariables false
open Go
set_option linter.unusedSectionVars false
variable [Globals]

section
variable {P : Program} {e : Env} {H : AHeap}

/-- The address of a field. -/
def afield (foff : Nat) : AV → Option AV
  | .ip cs off => some (.ip cs (off + foff))
  | .mp id off => some (.mp id (off + foff))
  | _ => none

theorem afield_run {t : TypeId} {fs : Array Field} {f : Field} {n : Nat} (ht : P.underlying t = some (.struct fs)) (hf : fs[n]? = some f) (hz : ∃ s, (P.info? f.type).map (·.size) = some (s + 1))
    {x r : AV} {v : Value} (h : afield f.offset x = some r) (hr : Rep e x v) : ∃ u, (Instr.fieldAt t v n).run P e.w = .ok u e.w ∧ Rep e r u := by
  obtain ⟨s, hs⟩ := hz
  obtain ⟨ti, hti, hsz⟩ := size_info hs
  have hne : ti.size ≠ 0 := by omega
  unfold afield at h
  split at h
  · cases h
    cases hr with
    | ip u hI hc h1 hr =>
      rename_i cs off b o
      refine ⟨.pointer (some ⟨b, o + (off + f.offset), none⟩), ?_, .ip u hI hc h1 hr⟩
      simp [Instr.fieldAt, run_underlying ht, hf, Instr.sureAddr, fieldPlace, sizeOf, typeInfo, hti, hne, addr_add, Nat.add_assoc]
  · cases h
    cases hr with
    | mp hid =>
      rename_i id off
      refine ⟨.pointer (some ⟨(e.ρ id).1, (e.ρ id).2 + (off + f.offset), none⟩), ?_, .mp hid⟩
      simp [Instr.fieldAt, run_underlying ht, hf, Instr.sureAddr, fieldPlace, sizeOf, typeInfo, hti, hne, addr_add, Nat.add_assoc]
  · cases h

/-- The address of an element. -/
def aindex (sz : Nat) (x i : AV) : Option AV :=
  match x, i with
  | .sl _ sz' es, .lit (.int _ i) => if sz' = sz ∧ 0 ≤ i ∧ i < (es.length : Int) then some (.ip (es.getD i.toNat []) 0) else none
  | .ms id off len sz', .lit (.int _ i) => if sz' = sz ∧ 0 ≤ i ∧ i < (len : Int) then some (.mp id (off + i.toNat * sz)) else none
  | _, _ => none

theorem rep_sl_inv {k : SK} {sz : Nat} {es : List (List AV)} {v : Value} (h : Rep e (.sl k sz es) v) :
    (k = .nil ∧ es = [] ∧ v = .slice none 0 0) ∨ (k ≠ .nil ∧ ∃ b o cap, v = .slice (some ⟨b, o, none⟩) es.length cap ∧ es.length ≤ cap ∧ (k = .exact → cap = es.length) ∧
      (es ≠ [] → e.I b) ∧ (∀ x ∈ es, x.length = sz) ∧ ∀ i x, es[i]? = some x → MemAt e b (o + i * sz) x) ∨ (k ≠ .nil ∧ es = [] ∧ ∃ ad, v = .slice (some ad) 0 0) := by
  cases h with
  | slNil sz => exact .inl ⟨rfl, rfl, rfl⟩
  | slE hk => exact .inr (.inr ⟨hk, rfl, _, rfl⟩)
  | sl u hk hI hcap hex hsz hc h1 hr => exact .inr (.inl ⟨hk, _, _, _, rfl, hcap, hex, hI, hsz, fun i x hi j c hj => ⟨u i j, hc i j x c hi hj, h1 i j x c hi hj, hr i j x c hi hj⟩⟩)

theorem rep_sl_intro {k : SK} {sz : Nat} {es : List (List AV)} {b o cap : Nat} (hk : k ≠ .nil) (hI : es ≠ [] → e.I b) (hcap : es.length ≤ cap) (hex : k = .exact → cap = es.length)
    (hsz : ∀ x ∈ es, x.length = sz) (hm : ∀ i x, es[i]? = some x → MemAt e b (o + i * sz) x) : Rep e (.sl k sz es) (.slice (some ⟨b, o, none⟩) es.length cap) := by
  have key : ∀ i j x c, es[i]? = some x → x[j]? = some c → e.w.cell? ⟨b, o + i * sz + j, none⟩ = some ((e.w.cell? ⟨b, o + i * sz + j, none⟩).getD undef) ∧
      ((e.w.cell? ⟨b, o + i * sz + j, none⟩).getD undef).oneCell' = true ∧ Rep e c ((e.w.cell? ⟨b, o + i * sz + j, none⟩).getD undef) := fun i j x c hi hj => by
    obtain ⟨u, h1, h2, h3⟩ := hm i x hi j c hj
    rw [h1]
    exact ⟨rfl, h2, h3⟩
  exact .sl (fun i j => (e.w.cell? ⟨b, o + i * sz + j, none⟩).getD undef) hk hI hcap hex hsz (fun i j x c hi hj => (key i j x c hi hj).1) (fun i j x c hi hj => (key i j x c hi hj).2.1) (fun i j x c hi hj => (key i j x c hi hj).2.2)

theorem rep_ip_intro {cs : List AV} {off b o : Nat} (hI : e.I b) (hm : MemAt e b o cs) : Rep e (.ip cs off) (.pointer (some ⟨b, o + off, none⟩)) := by
  have key : ∀ j c, cs[j]? = some c → e.w.cell? ⟨b, o + j, none⟩ = some ((e.w.cell? ⟨b, o + j, none⟩).getD undef) ∧
      ((e.w.cell? ⟨b, o + j, none⟩).getD undef).oneCell' = true ∧ Rep e c ((e.w.cell? ⟨b, o + j, none⟩).getD undef) := fun j c hj => by
    obtain ⟨u, h1, h2, h3⟩ := hm j c hj
    rw [h1]
    exact ⟨rfl, h2, h3⟩
  exact .ip (fun j => (e.w.cell? ⟨b, o + j, none⟩).getD undef) hI (fun j c hj => (key j c hj).1) (fun j c hj => (key j c hj).2.1) (fun j c hj => (key j c hj).2.2)

theorem rep_ms_inv {id off len sz : Nat} {v : Value} (h : Rep e (.ms id off len sz) v) : id < e.N ∧ ∃ ad cap, ad.spot = none ∧ v = .slice (some ad) len cap ∧ len ≤ cap ∧
    (cap = 0 ∨ (ad = ⟨(e.ρ id).1, (e.ρ id).2 + off, none⟩ ∧ ∃ (c : Array Value) (t : TypeId) (fz : Nat × Nat), e.w.heap[(e.ρ id).1]? = some (.cells c t fz) ∧ (e.ρ id).2 + off + cap * sz ≤ c.size)) := by
  cases h with
  | ms h1 h2 h3 h4 => exact ⟨h1, _, _, h4, rfl, h2, h3⟩

theorem aindex_run {t el : TypeId} (ht : P.underlying t = some (.slice el)) {sz : Nat} (hs : (P.info? el).map (·.size) = some sz) {x i r : AV} {v w : Value}
    (h : aindex sz x i = some r) (hx : Rep e x v) (hi : Rep e i w) : ∃ u, (Instr.indexAt t v w).run P e.w = .ok u e.w ∧ Rep e r u := by
  obtain ⟨ti, hti, hsz⟩ := size_info hs
  unfold aindex at h
  split at h
  · rename_i k sz' es ki ii
    split at h
    · rename_i hc
      obtain ⟨rfl, h0, h1⟩ := hc
      cases h
      cases hi
      rcases rep_sl_inv hx with ⟨_, rfl, _⟩ | ⟨_, b, o, cap, rfl, _, _, hI, _, hm⟩ | ⟨_, rfl, _⟩
      rotate_right
      · simp at h1; omega
      · simp at h1; omega
      · have hlt : ii.toNat < es.length := by omega
        have hes : es[ii.toNat]? = some (es.getD ii.toNat []) := by simp [List.getD, hlt]
        refine ⟨.pointer (some ⟨b, (o + ii.toNat * sz') + 0, none⟩), ?_, rep_ip_intro (hI (by intro h; simp [h] at hlt)) (hm _ _ hes)⟩
        simp [Instr.indexAt, asIntOf, run_underlying ht, h0, h1, sizeOf, typeInfo, hti, hsz, addr_add]
    · cases h
  · rename_i id off len sz' ki ii
    split at h
    · rename_i hc
      obtain ⟨rfl, h0, h1⟩ := hc
      cases h
      cases hi
      obtain ⟨hid, ad, cap, hsp, rfl, hlen, hroom⟩ := rep_ms_inv hx
      rcases hroom with h0' | ⟨rfl, _⟩
      · omega
      · refine ⟨.pointer (some ⟨(e.ρ id).1, (e.ρ id).2 + (off + ii.toNat * sz'), none⟩), ?_, .mp hid⟩
        simp [Instr.indexAt, asIntOf, run_underlying ht, h0, h1, sizeOf, typeInfo, hti, hsz, addr_add, Nat.add_assoc]
    · cases h
  · cases h

end
end Go.Fw
