/- Framework, part 10b: maps. -/
import Derived.Test.YtmgmgeijfkcglaaG1
namespace Go.Fw
set_option linter.unusedSimpArgs false
set_option linter.unusedVariables false
open Go
set_option linter.unusedSectionVars false
variable [Globals]

/-- Are two keys one? -/
def keq : Value → Value → Option Bool
  | .int k a, .int k' b => if k = k' then some (a == b) else none
  | .string a, .string b => some (a == b)
  | .bool a, .bool b => some (a == b)
  | _, _ => none

/-- Where a key stands. -/
def afind (k : Value) : List (Value × AV) → Nat → Option (Option Nat)
  | [], _ => some none
  | e :: es, i => match keq k e.1 with
    | some true => some (some i)
    | some false => afind k es (i + 1)
    | none => none

def kindOk (d : TypeDesc) : Value → Bool
  | .int _ _ => match d with | .int _ => true | _ => false
  | .string _ => match d with | .string => true | _ => false
  | .bool _ => match d with | .bool => true | _ => false
  | _ => false

theorem keq_same {d : TypeDesc} {x y : Value} {b : Bool} (hd : kindOk d x = true) (h : keq x y = some b) : Instr.sameNow d x y = some b := by
  unfold keq at h
  split at h
  · cases d <;> simp [kindOk] at hd
    simpa [Instr.sameNow] using h
  · cases d <;> simp [kindOk] at hd
    simpa [Instr.sameNow] using h
  · cases d <;> simp [kindOk] at hd
    simpa [Instr.sameNow] using h
  · cases h

theorem keq_bits {x y : Value} (h : keq x y = some true) (n : Nat) : Instr.sameBits n y x = true := by
  unfold keq at h
  split at h
  · split at h
    · rename_i hk
      subst hk
      simp only [Option.some.injEq, beq_iff_eq] at h
      subst h
      cases n <;> simp [Instr.sameBits]
    · cases h
  · simp only [Option.some.injEq] at h
    obtain rfl := (MapKept.bytes_beq _ _).mp h
    cases n <;> simp [Instr.sameBits, h]
  · simp only [Option.some.injEq, beq_iff_eq] at h
    subst h
    cases n <;> simp [Instr.sameBits]
  · cases h

theorem find_run {d : TypeDesc} {k : Value} (hd : kindOk d k = true) : ∀ (ents : List MapEntry) (es : List (Value × AV)) (i : Nat), ents.map (·.key) = es.map (·.1) →
    (afind k es i = some none → Instr.findNow d k ents i = some none) ∧
    (∀ j, afind k es i = some (some j) → ∃ x, i ≤ j ∧ ents[j - i]? = some x ∧ keq k x.key = some true ∧ Instr.findNow d k ents i = some (some (j, x.val)))
  | [], [], i, _ => by simp [afind, Instr.findNow]
  | [], _ :: _, _, h => by simp at h
  | _ :: _, [], _, h => by simp at h
  | x :: ents, e :: es, i, h => by
    simp only [List.map_cons, List.cons.injEq] at h
    obtain ⟨hk, hr⟩ := h
    obtain ⟨ih1, ih2⟩ := find_run hd ents es (i + 1) hr
    simp only [afind, Instr.findNow]
    cases hq : keq k e.1 with
    | none => simp
    | some b =>
      have hs := keq_same hd hq
      rw [← hk] at hs hq
      rw [hs]
      cases b with
      | true =>
        refine ⟨fun h => by simp at h, fun j hj => ?_⟩
        simp at hj
        subst hj
        exact ⟨x, Nat.le_refl _, by simp, hq, rfl⟩
      | false =>
        refine ⟨fun h => ih1 h, fun j hj => ?_⟩
        obtain ⟨y, h1, h2, h3, h4⟩ := ih2 j hj
        refine ⟨y, by omega, ?_, h3, h4⟩
        rw [show j - i = (j - (i + 1)) + 1 by omega]
        simpa using h2

theorem keq_eq {x y : Value} (h : keq x y = some true) : x = y := by
  unfold keq at h
  split at h
  · split at h
    · rename_i hk
      subst hk
      simp only [Option.some.injEq, beq_iff_eq] at h
      rw [h]
    · cases h
  · simp only [Option.some.injEq] at h
    rw [(MapKept.bytes_beq _ _).mp h]
  · simp only [Option.some.injEq, beq_iff_eq] at h
    rw [h]
  · cases h

theorem keq_self_ne {x : Value} : keq x x ≠ some false := by
  cases x <;> simp [keq]
  exact (MapKept.bytes_beq _ _).mpr rfl
theorem afind_none_ne {k : Value} : ∀ {es : List (Value × AV)} {i : Nat} {ents : List MapEntry}, afind k es i = some none → ents.map (·.key) = es.map (·.1) → ∀ x ∈ ents, x.key ≠ k
  | [], i, ents, _, h, x, hx => by simp at h; subst h; cases hx
  | e :: es, i, [], _, h, x, hx => by cases hx
  | e :: es, i, y :: ents, hf, h, x, hx => by
    simp only [List.map_cons, List.cons.injEq] at h
    simp only [afind] at hf
    cases hq : keq k e.1 with
    | none => rw [hq] at hf; cases hf
    | some b =>
      rw [hq] at hf
      cases b with
      | true => simp at hf
      | false =>
        rcases List.mem_cons.1 hx with rfl | hx
        · intro heq
          rw [← h.1, heq] at hq
          exact keq_self_ne hq
        · exact afind_none_ne hf h.2 x hx

section
variable {P : Program} {e : Env} {H : AHeap}

theorem checkKey_run {t : TypeId} {d : TypeDesc} (ht : P.underlying t = some d) {k : Value} (hd : kindOk d k = true) (b : Bool) (w : World) : (Instr.checkKey b 10000 t k).run P w = .ok () w := by
  have : ∀ n, (Instr.checkKey b (n + 1) t k).run P w = .ok () w := fun n => by
    cases k <;> simp [kindOk] at hd <;> cases d <;> simp at hd <;> simp [Instr.checkKey, run_underlying ht]
  exact this 9999

/-- What a look-up finds. -/
def alook (zero : AV) (H : AHeap) (m k : AV) : Option (AV × Bool) :=
  match m, k with
  | .lit (.map none), .lit _ => some (zero, false)
  | .mm id, .lit kv => match H id with
    | some (.map es) => match afind kv es 0 with
      | some none => some (zero, false)
      | some (some j) => (es[j]?).map fun x => (x.2, true)
      | none => none
    | _ => none
  | _, _ => none

def alookup (zero : AV) (ok : Bool) (H : AHeap) (m k : AV) : Option AV :=
  (alook zero H m k).map fun x => if ok = true then .tup [x.1, .lit (.bool x.2)] else x.1

theorem ents_keys {ents : Array MapEntry} {es : List (Value × AV)} (hs : ents.size = es.length) (hk : ∀ i : Nat, (ents[i]?).map (·.key) = (es[i]?).map (·.1)) : ents.toList.map (·.key) = es.map (·.1) := by
  apply List.ext_getElem?
  intro i
  simpa using hk i

theorem alookup_run (hH : HRep e H) {t kt el : TypeId} {d : TypeDesc} (ht : P.underlying t = some (.map kt el)) (hd : P.underlying kt = some d) {z : Value} (hz : (P.info? el).bind (·.zero) = some z) {zero : AV} (hzr : Rep e zero z)
    {ok : Bool} {m k r : AV} {vm vk : Value} (h : alookup zero ok H m k = some r) (hm : Rep e m vm) (hk : Rep e k vk) (hkd : ∀ v, k = .lit v → kindOk d v = true) :
    ∃ u, (Instr.lookup t vm vk ok).run P e.w = .ok u e.w ∧ Rep e r u := by
  obtain ⟨ti, hti, hzz⟩ := Option.bind_eq_some_iff.1 hz
  have hzero : ∀ w, (zeroValue el).run P w = .ok z w := fun w => by simp [zeroValue, run_typeInfo _ hti, hzz]
  have fin : ∀ (v : Value) (b : Bool) (av : AV), Rep e av v → r = (if ok = true then AV.tup [av, .lit (.bool b)] else av) → Rep e r (if ok then .tuple #[v, .bool b] else v) := fun v b av hv hr => by
    subst hr
    cases ok with
    | false => simpa using hv
    | true =>
      refine .tup (vs := [v, .bool b]) rfl (fun i c u hc hu => ?_)
      match i with
      | 0 => simp at hc hu; subst hc; subst hu; exact hv
      | 1 => simp at hc hu; subst hc; subst hu; exact .lit _
      | i + 2 => simp at hc
  unfold alookup at h
  simp only [Option.map_eq_some_iff] at h
  obtain ⟨⟨av, b⟩, hl, hr⟩ := h
  unfold alook at hl
  split at hl
  · rename_i kv
    cases hl; cases hm
    obtain rfl : kv = vk := by cases hk; rfl
    have hck := checkKey_run (P := P) hd (hkd kv rfl) true e.w
    refine ⟨if ok then .tuple #[z, .bool false] else z, ?_, fin z false zero hzr hr.symm⟩
    simp [Instr.lookup, run_underlying ht, hck, Instr.findKey, run_underlying hd, Instr.findNow, hzero]
  · rename_i id kv
    split at hl
    · rename_i es hid
      obtain ⟨hN, hI, ents, clock, hg, hs, hkeys, hvals, hst⟩ := hH.at_ id _ hid
      cases hm with
      | mm hid' =>
        obtain rfl : kv = vk := by cases hk; rfl
        have hkd' := hkd kv rfl
        have hck := checkKey_run (P := P) hd hkd' ents.isEmpty e.w
        obtain ⟨f1, f2⟩ := find_run hkd' ents.toList es 0 (ents_keys hs hkeys)
        have hget : (getObj (e.ρ id).1).run P e.w = .ok (.map ents clock) e.w := by simp only [getObj, Sem.run, hg]
        split at hl
        · rename_i hf
          cases hl
          refine ⟨if ok then .tuple #[z, .bool false] else z, ?_, fin z false zero hzr hr.symm⟩
          simp [Instr.lookup, run_underlying ht, hget, hck, Instr.findKey, run_underlying hd, f1 hf, hzero]
        · rename_i j hf
          simp only [Option.map_eq_some_iff] at hl
          obtain ⟨⟨kx, ax⟩, hj, hx⟩ := hl
          cases hx
          obtain ⟨x, _, hx, _, hfn⟩ := f2 j hf
          have hv := hvals j kx _ x hj (by simpa using hx)
          refine ⟨if ok then .tuple #[x.val, .bool true] else x.val, ?_, fin x.val true _ hv hr.symm⟩
          simp [Instr.lookup, run_underlying ht, hget, hck, Instr.findKey, run_underlying hd, hfn]
        · cases hl
    · cases hl
  · cases hl

/-- A map of the abstract heap written. -/
def Env.setMap (e : Env) (g : Nat) (o : Obj) : Env := { e with w := { e.w with heap := e.w.heap.setIfInBounds g o } }

theorem setMap_other (e : Env) (g : Nat) (o : Obj) {b : Nat} (h : b ≠ g) : (e.setMap g o).w.heap[b]? = e.w.heap[b]? := by
  simp [Env.setMap, Array.getElem?_setIfInBounds_ne (Ne.symm h)]

theorem setMap_same (e : Env) (g : Nat) (o o' : Obj) (h : e.w.heap[g]? = some o') : (e.setMap g o).w.heap[g]? = some o := by
  have := lt_of_heap h
  simp [Env.setMap, this]

theorem ext_setMap {e : Env} {g : Nat} {ents : Array MapEntry} {clock : Nat} (o : Obj) (hg : e.w.heap[g]? = some (.map ents clock)) (hI : ¬ e.I g) : Ext e (e.setMap g o) where
  I := fun _ h => h
  imm := fun b hb => setMap_other _ _ _ (fun h => hI (h ▸ hb))
  ρ := fun _ _ => rfl
  N := Nat.le_refl _
  shape := fun b d u fz' h => by
    by_cases hb : b = g
    · subst hb; rw [hg] at h; cases h
    · exact ⟨d, fz', (setMap_other _ _ _ hb).trans h, rfl⟩

theorem hrep_setMap (hH : HRep e H) {id : Nat} {ob ob' : AObj} (hid : H id = some ob) {ents : Array MapEntry} {clock : Nat} (o : Obj)
    (hg : e.w.heap[(e.ρ id).1]? = some (.map ents clock)) (hob : ORep (e.setMap (e.ρ id).1 o) (e.ρ id).1 (e.ρ id).2 ob') : HRep (e.setMap (e.ρ id).1 o) (H.set id ob') := by
  have hI := (hH.at_ id ob hid).2.1
  have x := ext_setMap o hg hI
  refine ⟨fun i o' hi => ?_, fun i j o1 o2 hi hj hij => ?_, fun b hb => ?_, hH.gl.ext x⟩
  · simp only [AHeap.set] at hi
    split at hi
    · rename_i heq
      subst heq
      cases hi
      exact ⟨(hH.at_ _ _ hid).1, hI, hob⟩
    · rename_i hne
      obtain ⟨h1, h2, h3⟩ := hH.at_ i o' hi
      exact ⟨h1, h2, h3.ext x (setMap_other _ _ _ (fun heq => hne (hH.inj i id o' ob hi hid heq)))⟩
  · have hx : ∀ {i : Nat} {o : AObj}, (H.set id ob') i = some o → ∃ o, H i = some o := fun {i o} hi => by
      simp only [AHeap.set] at hi
      split at hi
      · rename_i heq; subst heq; exact ⟨_, hid⟩
      · exact ⟨_, hi⟩
    obtain ⟨a, ha⟩ := hx hi
    obtain ⟨b, hb⟩ := hx hj
    exact hH.inj i j a b ha hb hij
  · have := hH.imm b hb
    simpa [Env.setMap] using this

theorem tr_setMap (hH : HRep e H) {id : Nat} {ob : AObj} (ob' : AObj) (hid : H id = some ob) {ents : Array MapEntry} {clock : Nat} (o : Obj)
    (hg : e.w.heap[(e.ρ id).1]? = some (.map ents clock)) : Tr e H (e.setMap (e.ρ id).1 o) (H.set id ob') where
  ext := ext_setMap o hg (hH.at_ id ob hid).2.1
  fr := fun b hb hn => setMap_other _ _ _ (fun heq => hn ⟨id, ob, hid, heq.symm⟩)
  own := fun b ⟨i, o', h1, h2⟩ => by
    simp only [AHeap.set] at h1
    split at h1
    · rename_i heq; subst heq; exact .inl ⟨_, ob, hid, h2⟩
    · exact .inl ⟨i, o', h1, h2⟩
  im := fun b hb => .inl hb
  size := by simp [Env.setMap]
  os := rfl
  tape := rfl
  output := rfl

/-- A store into a map. -/
def amapset (H : AHeap) (m k v : AV) : Option AHeap :=
  match m, k with
  | .mm id, .lit kv => match H id with
    | some (.map es) => match afind kv es 0 with
      | some none => some (H.set id (.map (es ++ [(kv, v)])))
      | some (some j) => some (H.set id (.map (es.set j (kv, v))))
      | none => none
    | _ => none
  | _, _ => none

theorem amapset_run (hH : HRep e H) {t kt el : TypeId} {d : TypeDesc} (ht : P.underlying t = some (.map kt el)) (hd : P.underlying kt = some d)
    {m k v : AV} {vm vk vv : Value} {H' : AHeap} (h : amapset H m k v = some H') (hm : Rep e m vm) (hk : Rep e k vk) (hv : Rep e v vv) (hkd : ∀ v, k = .lit v → kindOk d v = true) :
    ∃ e', (Instr.mapUpdate t vm vk vv).run P e.w = .ok () e'.w ∧ HRep e' H' ∧ e'.N = e.N ∧ Tr e H e' H' := by
  unfold amapset at h
  split at h
  · rename_i id kv
    split at h
    · rename_i es hid
      obtain ⟨hN, hI, ents, clock, hg, hs, hkeys, hvals, hst⟩ := hH.at_ id _ hid
      cases hm with
      | mm hid' =>
        obtain rfl : kv = vk := by cases hk; rfl
        have hkd' := hkd kv rfl
        have hck := checkKey_run (P := P) hd hkd' false e.w
        obtain ⟨f1, f2⟩ := find_run hkd' ents.toList es 0 (ents_keys hs hkeys)
        have hget : (getObj (e.ρ id).1).run P e.w = .ok (.map ents clock) e.w := by simp only [getObj, Sem.run, hg]
        have hset : ∀ o, (setObj (e.ρ id).1 o).run P e.w = .ok () (e.setMap (e.ρ id).1 o).w := fun o => by simp only [setObj, Sem.run, hg]; rfl
        split at h
        · rename_i hf
          cases h
          have hob : ORep (e.setMap (e.ρ id).1 (.map (ents.push { key := kv, val := vv, born := clock }) (clock + 1))) (e.ρ id).1 (e.ρ id).2 (.map (es ++ [(kv, v)])) := by
            have x := ext_setMap (.map (ents.push { key := kv, val := vv, born := clock }) (clock + 1)) hg hI
            refine ⟨_, _, setMap_same _ _ _ _ hg, by simp [hs], fun i => ?_, fun i k a y hi hy => ?_, MapKept.stamped_push hst (afind_none_ne hf (ents_keys hs hkeys))⟩
            · rw [Array.getElem?_push, List.getElem?_append]
              by_cases h1 : i < es.length
              · rw [if_neg (by omega), if_pos h1]; exact hkeys i
              · rw [if_neg h1]
                by_cases h2 : i = es.length
                · subst h2; rw [if_pos hs.symm]; simp
                · rw [if_neg (by omega), Array.getElem?_eq_none (by omega)]
                  rw [List.getElem?_eq_none (by simp; omega)]
                  rfl
            · rw [List.getElem?_append] at hi
              rw [Array.getElem?_push] at hy
              by_cases h1 : i < es.length
              · rw [if_pos h1] at hi
                rw [if_neg (by omega)] at hy
                exact (hvals i k a y hi hy).ext x
              · rw [if_neg h1] at hi
                have h2 : i = es.length := by
                  have := (List.getElem?_eq_some_iff.1 hi).1
                  simp at this; omega
                subst h2
                rw [if_pos hs.symm] at hy
                simp at hi hy
                obtain ⟨rfl, rfl⟩ := hi
                subst hy
                exact hv.ext x
          refine ⟨_, ?_, hrep_setMap hH hid _ hg hob, rfl, tr_setMap hH _ hid _ hg⟩
          simp [Instr.mapUpdate, run_underlying ht, hget, hck, Instr.findKey, run_underlying hd, f1 hf, hset]
        · rename_i j hf
          cases h
          obtain ⟨x, _, hx, hkx, hfn⟩ := f2 j hf
          simp only [Nat.sub_zero, Array.getElem?_toList] at hx
          have hjs : j < ents.size := (Array.getElem?_eq_some_iff.1 hx).1
          have hmod : ents.modify j (fun en => { en with key := kv, val := vv }) = ents.setIfInBounds j { x with key := kv, val := vv } := by
            apply Array.ext_getElem?
            intro i
            rw [Array.getElem?_modify, Array.getElem?_setIfInBounds]
            by_cases hij : j = i
            · subst hij; have hx' := (Array.getElem?_eq_some_iff.1 hx).2; simp [hx', hjs]
            · simp [hij]
          have hob : ORep (e.setMap (e.ρ id).1 (.map (ents.modify j (fun en => { en with key := kv, val := vv })) clock)) (e.ρ id).1 (e.ρ id).2 (.map (es.set j (kv, v))) := by
            have xx := ext_setMap (.map (ents.modify j (fun en => { en with key := kv, val := vv })) clock) hg hI
            refine ⟨_, _, setMap_same _ _ _ _ hg, by simp [hs], fun i => ?_, fun i k a y hi hy => ?_, MapKept.stamped_modify hst j _ (fun _ _ => rfl) (fun y _ hy => by rw [hx] at hy; cases hy; exact keq_eq hkx)⟩
            · rw [hmod, Array.getElem?_setIfInBounds, List.getElem?_set]
              by_cases hij : j = i
              · subst hij; simp [hjs, show j < es.length by omega]
              · simp only [if_neg hij]; exact hkeys i
            · rw [hmod, Array.getElem?_setIfInBounds] at hy
              rw [List.getElem?_set] at hi
              by_cases hij : j = i
              · subst hij
                simp [hjs, show j < es.length by omega] at hi hy
                obtain ⟨rfl, rfl⟩ := hi
                subst hy
                exact hv.ext xx
              · simp only [if_neg hij] at hi hy
                exact (hvals i k a y hi hy).ext xx
          refine ⟨_, ?_, hrep_setMap hH hid _ hg hob, rfl, tr_setMap hH _ hid _ hg⟩
          have hks : (Instr.keyThatStays x.key kv).run P e.w = .ok kv e.w := by simp [Instr.keyThatStays, keq_bits hkx 10000]
          simp [Instr.mapUpdate, run_underlying ht, hget, hck, Instr.findKey, run_underlying hd, hfn, hx, hks, hset]
        · cases h
    · cases h
  · cases h

/-- A key taken out of a map. -/
def amapdel (H : AHeap) (m k : AV) : Option AHeap :=
  match m, k with
  | .mm id, .lit kv => match H id with
    | some (.map es) => match afind kv es 0 with
      | some none => some (H.set id (.map es))
      | some (some j) => some (H.set id (.map (es.eraseIdx j)))
      | none => none
    | _ => none
  | _, _ => none

theorem amapdel_run (hH : HRep e H) {t kt el ty : TypeId} {at2 : Array TypeId} {d : TypeDesc} (ht : P.underlying t = some (.map kt el)) (hd : P.underlying kt = some d) (hat : at2[0]? = some t)
    {m k : AV} {vm vk : Value} {H' : AHeap} (h : amapdel H m k = some H') (hm : Rep e m vm) (hk : Rep e k vk) (hkd : ∀ v, k = .lit v → kindOk d v = true) :
    ∃ e', (Builtin.delete_ at2 ty #[vm, vk]).run P e.w = .ok (.tuple #[]) e'.w ∧ HRep e' H' ∧ e'.N = e.N ∧ Tr e H e' H' := by
  unfold amapdel at h
  split at h
  · rename_i id kv
    split at h
    · rename_i es hid
      obtain ⟨hN, hI, ents, clock, hg, hs, hkeys, hvals, hst⟩ := hH.at_ id _ hid
      cases hm with
      | mm hid' =>
        obtain rfl : kv = vk := by cases hk; rfl
        have hkd' := hkd kv rfl
        have hck := checkKey_run (P := P) hd hkd' ents.isEmpty e.w
        obtain ⟨f1, f2⟩ := find_run hkd' ents.toList es 0 (ents_keys hs hkeys)
        have hget : (getObj (e.ρ id).1).run P e.w = .ok (.map ents clock) e.w := by simp only [getObj, Sem.run, hg]
        have hset : ∀ o, (setObj (e.ρ id).1 o).run P e.w = .ok () (e.setMap (e.ρ id).1 o).w := fun o => by simp only [setObj, Sem.run, hg]; rfl
        split at h
        · rename_i hf
          cases h
          have hob : ORep (e.setMap (e.ρ id).1 (.map ents clock)) (e.ρ id).1 (e.ρ id).2 (.map es) := by
            have x := ext_setMap (.map ents clock) hg hI
            exact ⟨_, _, setMap_same _ _ _ _ hg, hs, hkeys, fun i k a y hi hy => (hvals i k a y hi hy).ext x, hst⟩
          refine ⟨_, ?_, hrep_setMap hH hid _ hg hob, rfl, tr_setMap hH _ hid _ hg⟩
          simp [Builtin.delete_, hat, run_underlying ht, hget, hck, Instr.findKey, run_underlying hd, f1 hf, hset]
        · rename_i j hf
          cases h
          obtain ⟨x, _, hx, hkx, hfn⟩ := f2 j hf
          simp only [Nat.sub_zero, Array.getElem?_toList] at hx
          have hjs : j < ents.size := (Array.getElem?_eq_some_iff.1 hx).1
          have her : (ents.eraseIdxIfInBounds j).toList = ents.toList.eraseIdx j := by simp [Array.eraseIdxIfInBounds, hjs]
          have hob : ORep (e.setMap (e.ρ id).1 (.map (ents.eraseIdxIfInBounds j) clock)) (e.ρ id).1 (e.ρ id).2 (.map (es.eraseIdx j)) := by
            have xx := ext_setMap (.map (ents.eraseIdxIfInBounds j) clock) hg hI
            have hge : ∀ i : Nat, (ents.eraseIdxIfInBounds j)[i]? = if i < j then ents[i]? else ents[i + 1]? := fun i => by
              rw [← Array.getElem?_toList, her, List.getElem?_eraseIdx]
              simp
            refine ⟨_, _, setMap_same _ _ _ _ hg, ?_, fun i => ?_, fun i k a y hi hy => ?_, MapKept.stamped_erase hst j⟩
            · rw [← Array.length_toList, her, List.length_eraseIdx, List.length_eraseIdx]
              simp [hs]
            · rw [hge, List.getElem?_eraseIdx]
              split
              · exact hkeys i
              · exact hkeys (i + 1)
            · rw [hge] at hy
              rw [List.getElem?_eraseIdx] at hi
              split at hy
              · rename_i hij; rw [if_pos hij] at hi; exact (hvals i k a y hi hy).ext xx
              · rename_i hij; rw [if_neg hij] at hi; exact (hvals (i + 1) k a y hi hy).ext xx
          refine ⟨_, ?_, hrep_setMap hH hid _ hg hob, rfl, tr_setMap hH _ hid _ hg⟩
          simp [Builtin.delete_, hat, run_underlying ht, hget, hck, Instr.findKey, run_underlying hd, hfn, hset]
        · cases h
    · cases h
  · cases h

theorem mkmap_run (hH : HRep e H) (t : TypeId) : ∃ e', (Instr.makeMap t none).run P e.w = .ok (.map (some e.w.heap.size)) e'.w ∧ Rep e' (.mm e.N) (.map (some e.w.heap.size)) ∧ HRep e' (H.set e.N (.map [])) ∧ e'.N = e.N + 1 ∧ Tr e H e' (H.set e.N (.map [])) := by
  refine ⟨e.allocO (.map #[] 0), rfl, ?_, hrep_allocO hH _ ⟨#[], 0, heap_alloc_new _ _, rfl, fun i => by simp, (fun i k a x hi => by simp at hi), MapKept.stamped_empty 0⟩, rfl, tr_allocO hH _ _⟩
  have := Rep.mm (e := e.allocO (.map #[] 0)) (id := e.N) (Nat.lt_succ_self _)
  simpa [Env.allocO] using this

end
end Go.Fw
