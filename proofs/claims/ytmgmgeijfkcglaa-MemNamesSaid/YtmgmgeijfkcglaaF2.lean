/- Framework, part 2: how the ghost side goes on with a new block, a store, a draw. -/
import Derived.Test.YtmgmgeijfkcglaaF1
namespace Go.Fw
set_option linter.unusedSimpArgs false
set_option linter.unusedVariables false
open Go
set_option linter.unusedSectionVars false
variable [Globals]

theorem ORep.ext {e e' : Env} (x : Ext e e') {b base : Nat} (hb : e'.w.heap[b]? = e.w.heap[b]?) {o : AObj} (h : ORep e b base o) : ORep e' b base o := by
  cases o with
  | blk cs =>
    obtain ⟨c, t, h1, h2, h3⟩ := h
    refine ⟨c, t, by rw [hb]; exact h1, h2, fun j a ha => ?_⟩
    obtain ⟨u, h4, h5, h6⟩ := h3 j a ha
    exact ⟨u, h4, h5, h6.ext x⟩
  | map es =>
    obtain ⟨c, t, h1, h2, h3, h4, h5⟩ := h
    refine ⟨c, t, by rw [hb]; exact h1, h2, h3, fun i k a y ha hy => ?_, h5⟩
    exact (h4 i k a y ha hy).ext x
  | loop r A => exact ⟨hb.trans h.1, fun t => (h.2 t).ext x⟩

theorem HRep.keep {e e' : Env} {H : AHeap} (h : HRep e H) (x : Ext e e') (hk : ∀ id o, H id = some o → e'.w.heap[(e.ρ id).1]? = e.w.heap[(e.ρ id).1]?)
    (hI : ∀ b, e'.I b → e.I b ∨ e.w.heap.size ≤ b) (hlt : ∀ b, e'.I b → b < e'.w.heap.size) : HRep e' H where
  at_ := fun id o ho => by
    obtain ⟨h1, h2, h3⟩ := h.at_ id o ho
    rw [x.ρ id h1]
    refine ⟨Nat.lt_of_lt_of_le h1 x.N, fun hb => ?_, h3.ext x (hk id o ho)⟩
    rcases hI _ hb with h4 | h4
    · exact h2 h4
    · have := h3.lt; omega
  inj := fun i j o o' hi hj hij => by
    rw [x.ρ i (h.at_ i o hi).1, x.ρ j (h.at_ j o' hj).1] at hij
    exact h.inj i j o o' hi hj hij
  imm := hlt
  gl := h.gl.ext x

def AHeap.set (H : AHeap) (id : Nat) (o : AObj) : AHeap := fun i => if i = id then some o else H i
def AHeap.del (H : AHeap) (id : Nat) : AHeap := fun i => if i = id then none else H i

def Env.allocI (e : Env) (o : Obj) : Env := { e with w := e.w.alloc o, I := fun b => e.I b ∨ b = e.w.heap.size }
def Env.allocO (e : Env) (o : Obj) : Env := { w := e.w.alloc o, I := e.I, ρ := fun i => if i = e.N then (e.w.heap.size, 0) else e.ρ i, N := e.N + 1 }
def Env.drew (e : Env) : Env := { e with w := e.w.drew }

theorem lt_of_heap {w : World} {b : Nat} {o : Obj} (h : w.heap[b]? = some o) : b < w.heap.size := (Array.getElem?_eq_some_iff.1 h).1

theorem ext_allocI (e : Env) (o : Obj) (hi : ∀ b, e.I b → b < e.w.heap.size) : Ext e (e.allocI o) where
  I := fun _ h => .inl h
  imm := fun b h => heap_alloc_old _ _ (hi b h)
  ρ := fun _ _ => rfl
  N := Nat.le_refl _
  shape := fun b c t fz h => ⟨c, fz, (heap_alloc_old _ _ (lt_of_heap h)).trans h, rfl⟩

theorem ext_allocO (e : Env) (o : Obj) (hi : ∀ b, e.I b → b < e.w.heap.size) : Ext e (e.allocO o) where
  I := fun _ h => h
  imm := fun b h => heap_alloc_old _ _ (hi b h)
  ρ := fun id h => by simp only [Env.allocO]; rw [if_neg (by omega)]
  N := Nat.le_succ _
  shape := fun b c t fz h => ⟨c, fz, (heap_alloc_old _ _ (lt_of_heap h)).trans h, rfl⟩

theorem ext_drew (e : Env) : Ext e e.drew := ⟨fun _ h => h, fun _ _ => rfl, fun _ _ => rfl, Nat.le_refl _, fun _ c _ fz h => ⟨c, fz, h, rfl⟩⟩

theorem hrep_drew {e : Env} {H : AHeap} (h : HRep e H) : HRep e.drew H :=
  h.keep (ext_drew e) (fun _ _ _ => rfl) (fun _ h => .inl h) h.imm

theorem tr_drew (e : Env) (H : AHeap) : Tr e H e.drew H :=
  ⟨ext_drew e, fun _ _ _ => rfl, fun _ h => .inl h, fun _ h => .inl h, Nat.le_refl _, rfl, rfl, rfl⟩

theorem size_alloc (w : World) (o : Obj) : (w.alloc o).heap.size = w.heap.size + 1 := by
  show (w.heap.push o).size = _
  simp

theorem hrep_allocI {e : Env} {H : AHeap} (h : HRep e H) (o : Obj) : HRep (e.allocI o) H := by
  refine h.keep (ext_allocI e o h.imm) (fun id ob hid => ?_) (fun b hb => ?_) (fun b hb => ?_)
  · exact heap_alloc_old _ _ (h.at_ id ob hid).2.2.lt
  · rcases hb with hb | hb
    · exact .inl hb
    · exact .inr (by omega)
  · show b < (e.w.alloc o).heap.size
    rw [size_alloc]
    rcases hb with hb | hb
    · have := h.imm b hb; omega
    · omega

theorem tr_allocI {e : Env} {H : AHeap} (h : HRep e H) (o : Obj) : Tr e H (e.allocI o) H where
  ext := ext_allocI e o h.imm
  fr := fun b hb _ => heap_alloc_old _ _ hb
  own := fun b ⟨id, ob, h1, h2⟩ => .inl ⟨id, ob, h1, h2⟩
  im := fun b hb => by
    rcases hb with hb | hb
    · exact .inl hb
    · exact .inr (.inr (by omega))
  size := by show _ ≤ (e.w.alloc o).heap.size; rw [size_alloc]; omega
  os := rfl
  tape := rfl
  output := rfl

theorem hrep_fresh {e : Env} {H : AHeap} (h : HRep e H) : H e.N = none := by
  cases ho : H e.N with
  | none => rfl
  | some o => exact absurd (h.at_ _ _ ho).1 (Nat.lt_irrefl _)

theorem hrep_allocO {e : Env} {H : AHeap} (h : HRep e H) (o : Obj) {ob : AObj} (hob : ORep (e.allocO o) e.w.heap.size 0 ob) : HRep (e.allocO o) (H.set e.N ob) := by
  have x := ext_allocO e o h.imm
  have hρ : (e.allocO o).ρ e.N = (e.w.heap.size, 0) := by simp [Env.allocO]
  refine ⟨fun id o' hid => ?_, fun i j o1 o2 hi hj hij => ?_, fun b hb => ?_, h.gl.ext x⟩
  · simp only [AHeap.set] at hid
    split at hid
    · rename_i heq
      subst heq
      cases hid
      rw [hρ]
      exact ⟨Nat.lt_succ_self _, fun hb => Nat.lt_irrefl _ (h.imm _ hb), hob⟩
    · obtain ⟨h1, h2, h3⟩ := h.at_ id o' hid
      rw [x.ρ id h1]
      exact ⟨Nat.lt_succ_of_lt h1, h2, h3.ext x (heap_alloc_old _ _ h3.lt)⟩
  · simp only [AHeap.set] at hi hj
    split at hi <;> split at hj
    · omega
    · rename_i h1 h2
      subst h1
      obtain ⟨h3, _, h4⟩ := h.at_ j o2 hj
      rw [hρ, x.ρ j h3] at hij
      have := h4.lt; simp only at hij; omega
    · rename_i h1 h2
      subst h2
      obtain ⟨h3, _, h4⟩ := h.at_ i o1 hi
      rw [hρ, x.ρ i h3] at hij
      have := h4.lt; simp only at hij; omega
    · rw [x.ρ i (h.at_ i o1 hi).1, x.ρ j (h.at_ j o2 hj).1] at hij
      exact h.inj i j o1 o2 hi hj hij
  · show b < (e.w.alloc o).heap.size
    rw [size_alloc]
    have := h.imm b hb; omega

theorem tr_allocO {e : Env} {H : AHeap} (h : HRep e H) (o : Obj) (ob : AObj) : Tr e H (e.allocO o) (H.set e.N ob) where
  ext := ext_allocO e o h.imm
  fr := fun b hb _ => heap_alloc_old _ _ hb
  own := fun b ⟨id, o', h1, h2⟩ => by
    simp only [AHeap.set] at h1
    split at h1
    · rename_i heq
      subst heq
      simp only [Env.allocO, if_true] at h2
      exact .inr (by omega)
    · refine .inl ⟨id, o', h1, ?_⟩
      rw [← (ext_allocO e o h.imm).ρ id (h.at_ id o' h1).1]
      exact h2
  im := fun b hb => .inl hb
  size := by show _ ≤ (e.w.alloc o).heap.size; rw [size_alloc]; omega
  os := rfl
  tape := rfl
  output := rfl

/-- A row of the abstract heap written: the block keeps its size. -/
def Env.setRow (e : Env) (g : Nat) (c : Array Value) : Env := { e with w := e.w.setRow g c }

theorem ext_setRow {e : Env} {g : Nat} {c c' : Array Value} {t : TypeId} {fz : Nat × Nat} (hg : e.w.heap[g]? = some (.cells c t fz)) (hs : c'.size = c.size) (hI : ¬ e.I g) : Ext e (e.setRow g c') where
  I := fun _ h => h
  imm := fun b hb => setRow_other _ _ _ _ (fun h => hI (h ▸ hb))
  ρ := fun _ _ => rfl
  N := Nat.le_refl _
  shape := fun b d u fz' h => by
    by_cases hb : b = g
    · subst hb
      rw [hg] at h
      cases h
      exact ⟨c', fz, setRow_heap _ _ _ _ _ _ hg, hs⟩
    · exact ⟨d, fz', (setRow_other _ _ _ _ hb).trans h, rfl⟩

theorem hrep_setRow {e : Env} {H : AHeap} (h : HRep e H) {id : Nat} {ob ob' : AObj} (hid : H id = some ob) {c c' : Array Value} {t : TypeId} {fz : Nat × Nat}
    (hg : e.w.heap[(e.ρ id).1]? = some (.cells c t fz)) (hs : c'.size = c.size) (hob : ORep (e.setRow (e.ρ id).1 c') (e.ρ id).1 (e.ρ id).2 ob') :
    HRep (e.setRow (e.ρ id).1 c') (H.set id ob') := by
  have hI := (h.at_ id ob hid).2.1
  have x := ext_setRow hg hs hI
  refine ⟨fun i o hi => ?_, fun i j o1 o2 hi hj hij => ?_, fun b hb => ?_, h.gl.ext x⟩
  · simp only [AHeap.set] at hi
    split at hi
    · rename_i heq
      subst heq
      cases hi
      exact ⟨(h.at_ _ _ hid).1, hI, hob⟩
    · rename_i hne
      obtain ⟨h1, h2, h3⟩ := h.at_ i o hi
      refine ⟨h1, h2, h3.ext x (setRow_other _ _ _ _ (fun heq => hne (h.inj i id o ob hi hid heq)))⟩
  · have hi' : ∃ o, H i = some o := by
      simp only [AHeap.set] at hi
      split at hi
      · rename_i heq; subst heq; exact ⟨_, hid⟩
      · exact ⟨_, hi⟩
    have hj' : ∃ o, H j = some o := by
      simp only [AHeap.set] at hj
      split at hj
      · rename_i heq; subst heq; exact ⟨_, hid⟩
      · exact ⟨_, hj⟩
    obtain ⟨a, ha⟩ := hi'
    obtain ⟨b, hb⟩ := hj'
    exact h.inj i j a b ha hb hij
  · show b < (e.w.setRow _ c').heap.size
    rw [setRow_size]
    exact h.imm b hb

theorem tr_setRow {e : Env} {H : AHeap} (h : HRep e H) {id : Nat} {ob : AObj} (ob' : AObj) (hid : H id = some ob) {c c' : Array Value} {t : TypeId} {fz : Nat × Nat}
    (hg : e.w.heap[(e.ρ id).1]? = some (.cells c t fz)) (hs : c'.size = c.size) : Tr e H (e.setRow (e.ρ id).1 c') (H.set id ob') where
  ext := ext_setRow hg hs (h.at_ id ob hid).2.1
  fr := fun b hb hn => setRow_other _ _ _ _ (fun heq => hn ⟨id, ob, hid, heq.symm⟩)
  own := fun b ⟨i, o, h1, h2⟩ => by
    simp only [AHeap.set] at h1
    split at h1
    · rename_i heq; subst heq; exact .inl ⟨_, ob, hid, h2⟩
    · exact .inl ⟨i, o, h1, h2⟩
  im := fun b hb => .inl hb
  size := by show _ ≤ (e.w.setRow _ c').heap.size; rw [setRow_size]; exact Nat.le_refl _
  os := rfl
  tape := rfl
  output := rfl

/-- A number more for a block that an object had: the elder number is given up. -/
def Env.again (e : Env) (b base : Nat) : Env := { e with ρ := fun i => if i = e.N then (b, base) else e.ρ i, N := e.N + 1 }

theorem ext_again (e : Env) (b base : Nat) : Ext e (e.again b base) where
  I := fun _ h => h
  imm := fun _ _ => rfl
  ρ := fun id h => by simp only [Env.again]; rw [if_neg (by omega)]
  N := Nat.le_succ _
  shape := fun _ c _ fz h => ⟨c, fz, h, rfl⟩

theorem hrep_again {e : Env} {H : AHeap} (h : HRep e H) {id : Nat} {ob ob' : AObj} (hid : H id = some ob) (base : Nat) (hob : ORep (e.again (e.ρ id).1 base) (e.ρ id).1 base ob') :
    HRep (e.again (e.ρ id).1 base) ((H.del id).set e.N ob') := by
  have x := ext_again e (e.ρ id).1 base
  have hρ : (e.again (e.ρ id).1 base).ρ e.N = ((e.ρ id).1, base) := by simp [Env.again]
  have old : ∀ i o, i ≠ e.N → ((H.del id).set e.N ob') i = some o → i ≠ id ∧ H i = some o := fun i o hne hi => by
    simp only [AHeap.set, if_neg hne, AHeap.del] at hi
    split at hi
    · cases hi
    · rename_i h1; exact ⟨h1, hi⟩
  refine ⟨fun i o hi => ?_, fun i j o1 o2 hi hj hij => ?_, fun b hb => h.imm b hb, h.gl.ext x⟩
  · by_cases hne : i = e.N
    · subst hne
      have : o = ob' := by simp only [AHeap.set, if_true] at hi; exact (Option.some.inj hi).symm
      subst this
      rw [hρ]
      exact ⟨Nat.lt_succ_self _, (h.at_ id ob hid).2.1, hob⟩
    · obtain ⟨_, h1⟩ := old i o hne hi
      obtain ⟨h2, h3, h4⟩ := h.at_ i o h1
      rw [x.ρ i h2]
      exact ⟨Nat.lt_succ_of_lt h2, h3, h4.ext x rfl⟩
  · by_cases hi1 : i = e.N <;> by_cases hj1 : j = e.N
    · omega
    · exfalso
      obtain ⟨h1, h2⟩ := old j o2 hj1 hj
      subst hi1
      rw [hρ, x.ρ j (h.at_ j o2 h2).1] at hij
      exact h1 (h.inj j id o2 ob h2 hid hij.symm)
    · exfalso
      obtain ⟨h1, h2⟩ := old i o1 hi1 hi
      subst hj1
      rw [hρ, x.ρ i (h.at_ i o1 h2).1] at hij
      exact h1 (h.inj i id o1 ob h2 hid hij)
    · obtain ⟨_, h2⟩ := old i o1 hi1 hi
      obtain ⟨_, h3⟩ := old j o2 hj1 hj
      rw [x.ρ i (h.at_ i o1 h2).1, x.ρ j (h.at_ j o2 h3).1] at hij
      exact h.inj i j o1 o2 h2 h3 hij

theorem tr_again {e : Env} {H : AHeap} (h : HRep e H) {id : Nat} {ob : AObj} (ob' : AObj) (hid : H id = some ob) (base : Nat) : Tr e H (e.again (e.ρ id).1 base) ((H.del id).set e.N ob') where
  ext := ext_again e _ base
  fr := fun _ _ _ => rfl
  own := fun b ⟨i, o, h1, h2⟩ => by
    by_cases hne : i = e.N
    · subst hne
      simp only [Env.again, if_true] at h2
      exact .inl ⟨id, ob, hid, h2⟩
    · simp only [AHeap.set, if_neg hne, AHeap.del] at h1
      split at h1
      · cases h1
      · refine .inl ⟨i, o, h1, ?_⟩
        rw [← (ext_again e (e.ρ id).1 base).ρ i (h.at_ i o h1).1]
        exact h2
  im := fun b hb => .inl hb
  size := Nat.le_refl _
  os := rfl
  tape := rfl
  output := rfl

/-- A block more that belongs to nobody. -/
def Env.allocU (e : Env) (o : Obj) : Env := { e with w := e.w.alloc o }

theorem ext_allocU (e : Env) (o : Obj) (hi : ∀ b, e.I b → b < e.w.heap.size) : Ext e (e.allocU o) where
  I := fun _ h => h
  imm := fun b h => heap_alloc_old _ _ (hi b h)
  ρ := fun _ _ => rfl
  N := Nat.le_refl _
  shape := fun b c t fz h => ⟨c, fz, (heap_alloc_old _ _ (lt_of_heap h)).trans h, rfl⟩

theorem hrep_allocU {e : Env} {H : AHeap} (h : HRep e H) (o : Obj) : HRep (e.allocU o) H := by
  refine h.keep (ext_allocU e o h.imm) (fun id ob hid => ?_) (fun b hb => .inl hb) (fun b hb => ?_)
  · exact heap_alloc_old _ _ (h.at_ id ob hid).2.2.lt
  · show b < (e.w.alloc o).heap.size
    rw [size_alloc]
    have := h.imm b hb; omega

theorem tr_allocU {e : Env} {H : AHeap} (h : HRep e H) (o : Obj) : Tr e H (e.allocU o) H where
  ext := ext_allocU e o h.imm
  fr := fun b hb _ => heap_alloc_old _ _ hb
  own := fun b ⟨id, ob, h1, h2⟩ => .inl ⟨id, ob, h1, h2⟩
  im := fun b hb => .inl hb
  size := by show _ ≤ (e.w.alloc o).heap.size; rw [size_alloc]; omega
  os := rfl
  tape := rfl
  output := rfl

def noCells : Obj → Bool
  | .cells .. => false
  | _ => true

/-- A block that bears no cells, written. -/
def Env.putO (e : Env) (g : Nat) (o : Obj) : Env := { e with w := e.w.putObj g o }

theorem ext_putO {e : Env} {g : Nat} {o o' : Obj} (hg : e.w.heap[g]? = some o) (hc : noCells o = true) (hI : ¬ e.I g) : Ext e (e.putO g o') where
  I := fun _ h => h
  imm := fun b hb => World.putObj_heap_other (fun h => hI (h ▸ hb))
  ρ := fun _ _ => rfl
  N := Nat.le_refl _
  shape := fun b d u fz' h => by
    by_cases hb : b = g
    · subst hb
      rw [hg] at h
      cases h
      cases hc
    · exact ⟨d, fz', (World.putObj_heap_other hb).trans h, rfl⟩

theorem hrep_putO {e : Env} {H : AHeap} (h : HRep e H) {id : Nat} {ob ob' : AObj} (hid : H id = some ob) {o o' : Obj}
    (hg : e.w.heap[(e.ρ id).1]? = some o) (hc : noCells o = true) (hob : ORep (e.putO (e.ρ id).1 o') (e.ρ id).1 (e.ρ id).2 ob') :
    HRep (e.putO (e.ρ id).1 o') (H.set id ob') := by
  have hI := (h.at_ id ob hid).2.1
  have x := ext_putO (o' := o') hg hc hI
  refine ⟨fun i o hi => ?_, fun i j o1 o2 hi hj hij => ?_, fun b hb => ?_, h.gl.ext x⟩
  · simp only [AHeap.set] at hi
    split at hi
    · rename_i heq
      subst heq
      cases hi
      exact ⟨(h.at_ _ _ hid).1, hI, hob⟩
    · rename_i hne
      obtain ⟨h1, h2, h3⟩ := h.at_ i o hi
      exact ⟨h1, h2, h3.ext x (World.putObj_heap_other (fun heq => hne (h.inj i id o ob hi hid heq)))⟩
  · have hi' : ∃ o, H i = some o := by
      simp only [AHeap.set] at hi
      split at hi
      · rename_i heq; subst heq; exact ⟨_, hid⟩
      · exact ⟨_, hi⟩
    have hj' : ∃ o, H j = some o := by
      simp only [AHeap.set] at hj
      split at hj
      · rename_i heq; subst heq; exact ⟨_, hid⟩
      · exact ⟨_, hj⟩
    obtain ⟨a, ha⟩ := hi'
    obtain ⟨b, hb⟩ := hj'
    exact h.inj i j a b ha hb hij
  · show b < (e.w.putObj _ o').heap.size
    rw [World.putObj_size]
    exact h.imm b hb

theorem tr_putO {e : Env} {H : AHeap} (h : HRep e H) {id : Nat} {ob : AObj} (ob' : AObj) (hid : H id = some ob) {o o' : Obj}
    (hg : e.w.heap[(e.ρ id).1]? = some o) (hc : noCells o = true) : Tr e H (e.putO (e.ρ id).1 o') (H.set id ob') where
  ext := ext_putO hg hc (h.at_ id ob hid).2.1
  fr := fun b hb hn => World.putObj_heap_other (fun heq => hn ⟨id, ob, hid, heq.symm⟩)
  own := fun b ⟨i, o, h1, h2⟩ => by
    simp only [AHeap.set] at h1
    split at h1
    · rename_i heq; subst heq; exact .inl ⟨_, ob, hid, h2⟩
    · exact .inl ⟨i, o, h1, h2⟩
  im := fun b hb => .inl hb
  size := by show _ ≤ (e.w.putObj _ o').heap.size; rw [World.putObj_size]; exact Nat.le_refl _
  os := rfl
  tape := rfl
  output := rfl

/-- A block that belongs to nobody, and that bears no cells, written. -/
theorem hrep_putU {e : Env} {H : AHeap} (h : HRep e H) {g : Nat} {o o' : Obj} (hg : e.w.heap[g]? = some o) (hc : noCells o = true) (hI : ¬ e.I g) (hO : ¬ Own e H g) : HRep (e.putO g o') H := by
  refine h.keep (ext_putO hg hc hI) (fun id ob hid => World.putObj_heap_other (fun heq => hO ⟨id, ob, hid, heq⟩)) (fun b hb => .inl hb) (fun b hb => ?_)
  show b < (e.w.putObj _ o').heap.size
  rw [World.putObj_size]
  exact h.imm b hb

end Go.Fw
