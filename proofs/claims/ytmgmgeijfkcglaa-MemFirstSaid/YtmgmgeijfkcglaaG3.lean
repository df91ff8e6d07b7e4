/- Framework, part 12: the compiled operations are the model's. -/
import Derived.Test.YtmgmgeijfkcglaaG2
import Derived.Laws.StructEq
namespace Go.Fw
set_option linter.unusedSimpArgs false
set_option linter.unusedVariables false
open Go
set_option linter.unusedSectionVars false
variable [Globals]

section
variable {P : Program} {o : Oper} {a : Act} {e : Env} {n : Nat} {s : St}

theorem OpRes.ofP {v : AV} {H' : AHeap} {N' : Nat} {r : Option AV} (g : Gam e n s a) (h : r.map (fun v => (v, s.H, s.N)) = some (v, H', N'))
    (hr : ∀ v, r = some v → ∃ u, (execOp a.eval o).run P e.w = .ok (.value u) e.w ∧ Rep e v u) : OpRes P o a e s.H v H' N' := by
  simp only [Option.map_eq_some_iff, Prod.mk.injEq] at h
  obtain ⟨v', h1, rfl, rfl, rfl⟩ := h
  obtain ⟨u, h2, h3⟩ := hr v' h1
  have := OpRes.pure (H := s.H) g.H h2 h3
  rwa [g.N] at this

theorem anil_run {x r : AV} {v : Value} (h : anil x = some r) (hx : Rep e x v) : r = x ∧ ∃ ad, v = .pointer (some ad) := by
  unfold anil at h
  split at h <;> cases h <;> cases hx <;> exact ⟨rfl, _, rfl⟩

theorem aun_run {op : UnOp} {x r : AV} {v : Value} (h : aun op x = some r) (hx : Rep e x v) : ∃ u, (Op.unary op v).run P e.w = .ok u e.w ∧ Rep e r u := by
  unfold aun at h
  split at h
  · cases hx
    split at h
    · cases h; exact ⟨_, by simp [Op.unary, Op.intArith], .lit _⟩
    · cases h
  · cases hx
    split at h
    · cases h; exact ⟨_, by simp [Op.unary], .lit _⟩
    · cases h
  · cases h

theorem alen_run {t : TypeId} {k : Nat} (ht : (k = 0 ∧ P.underlying t = some .string) ∨ (k = 1 ∧ ∃ el, P.underlying t = some (.slice el)) ∨ (k = 2 ∧ ∃ ky el, P.underlying t = some (.map ky el))) {ty : TypeId} {x r : AV} {v : Value}
    (h : (alen k x).map (fun n => AV.lit (.int .i64 n)) = some r) (hx : Rep e x v) : ∃ u, (Builtin.len_ #[t] ty #[v]).run P e.w = .ok u e.w ∧ Rep e r u := by
  simp only [Option.map_eq_some_iff] at h
  obtain ⟨m, h1, rfl⟩ := h
  unfold alen at h1
  split at h1
  · split at h1
    · rename_i hk; subst hk
      cases h1; cases hx
      rcases ht with ⟨_, hu⟩ | ⟨h, _⟩ | ⟨h, _⟩
      · exact ⟨_, by simp [Builtin.len_, run_underlying hu, goInt], .lit _⟩
      · cases h
      · cases h
    · cases h1
  · split at h1
    · rename_i hk; subst hk
      cases h1
      rcases ht with ⟨h, _⟩ | ⟨_, el, hu⟩ | ⟨h, _⟩
      · cases h
      · rcases rep_sl_inv hx with ⟨rfl, rfl, rfl⟩ | ⟨_, b, o', cap, rfl, _⟩ | ⟨_, rfl, _, rfl⟩
        rotate_right
        · exact ⟨_, by simp [Builtin.len_, run_underlying hu, goInt], .lit _⟩
        · exact ⟨_, by simp [Builtin.len_, run_underlying hu, goInt], .lit _⟩
        · exact ⟨_, by simp [Builtin.len_, run_underlying hu, goInt], .lit _⟩
      · cases h
    · cases h1
  · split at h1
    · rename_i hk; subst hk
      cases h1
      rcases ht with ⟨h, _⟩ | ⟨_, el, hu⟩ | ⟨h, _⟩
      · cases h
      · obtain ⟨_, ad, cap, hsp, rfl, _⟩ := rep_ms_inv hx
        exact ⟨_, by simp [Builtin.len_, run_underlying hu, goInt], .lit _⟩
      · cases h
    · cases h1
  · split at h1
    · rename_i hk; subst hk
      cases h1; cases hx
      rcases ht with ⟨h, _⟩ | ⟨h, _⟩ | ⟨_, ky, el, hu⟩
      · cases h
      · cases h
      · exact ⟨_, by simp [Builtin.len_, run_underlying hu, goInt], .lit _⟩
    · cases h1
  · cases h1

theorem aidxs_run {t : TypeId} (ht : P.underlying t = some .string) {x i r : AV} {v w : Value} (h : aidxs x i = some r) (hx : Rep e x v) (hi : Rep e i w) :
    ∃ u, (Instr.index t v w).run P e.w = .ok u e.w ∧ Rep e r u := by
  unfold aidxs at h
  split at h
  · cases hx; cases hi
    split at h
    · rename_i h0
      simp only [Option.map_eq_some_iff] at h
      obtain ⟨b, hb, rfl⟩ := h
      exact ⟨_, by simp [Instr.index, asIntOf, run_underlying ht, h0, hb], .lit _⟩
    · cases h
  · cases h

theorem strSlice_run {t : TypeId} (ht : P.underlying t = some .string) {x r : AV} {lo hi : Option AV} {v : Value} {vlo vhi : Option Value}
    (h : strSlice x lo hi = some r) (hx : Rep e x v) (hlo : RepO e lo vlo) (hhi : RepO e hi vhi) : ∃ u, (Instr.sliceAt t v vlo vhi none).run P e.w = .ok u e.w ∧ Rep e r u := by
  unfold strSlice at h
  split at h
  · cases hx
    split at h
    · rename_i l hh hl hhb
      split at h
      · rename_i hc
        obtain ⟨h0, h1, h2⟩ := hc
        cases h
        have hb := sliceBounds_run (P := P) (rb_of hl hlo) (rb_of hhb hhi) h0 h1 h2 (Nat.le_refl _) e.w false
        exact ⟨_, by simp [Instr.sliceAt, Instr.slice, run_underlying ht, hb], .lit _⟩
      · cases h
    · cases h
  · cases h

theorem Gam.evO {x : Option Operand} (g : Gam e n s a) : RepO e ((x.map cX).map s.ev) (x.map a.eval) := by
  cases x with
  | none => exact .none
  | some x => exact .some (g.ev x)

theorem Gam.evs (g : Gam e n s a) (l : List Operand) : ∀ (i : Nat) (c : AV) (v : Value), ((l.map cX).map s.ev)[i]? = some c → (l.map a.eval)[i]? = some v → Rep e c v := fun i c v hc hv => by
  simp only [List.map_map, List.getElem?_map, Option.map_eq_some_iff] at hc hv
  obtain ⟨x, hx, rfl⟩ := hc
  obtain ⟨y, hy, rfl⟩ := hv
  rw [hx] at hy
  cases hy
  exact g.ev x

theorem relC_cAV {z : Value} {cs : List AV} (h : (cAV z).cells = some cs) (e : Env) : RelC e cs z.cells.toList := by
  obtain ⟨h1, h2⟩ := cells_list h (rep_cAV e z)
  exact ⟨h1, h2⟩

theorem relC_zero {z : Value} (h : z.cells.toList.all Value.oneCell' = true) (e : Env) : RelC e (z.cells.toList.map cAV1) z.cells.toList := relC_const e _ (fun u hu => List.all_eq_true.1 h u hu)

theorem mapM_get {α β : Type} {f : α → Option β} : ∀ {l : List α} {r : List β}, l.mapM f = some r → r.length = l.length ∧ ∀ (i : Nat) (x : α) (y : β), l[i]? = some x → r[i]? = some y → f x = some y
  | [], r, h => by simp at h; subst h; simp
  | x :: l, r, h => by
    simp only [List.mapM_cons, Option.bind_eq_bind, Option.pure_def, Option.bind_eq_some_iff, Option.some.injEq] at h
    obtain ⟨y, h1, r', h2, rfl⟩ := h
    obtain ⟨h3, h4⟩ := mapM_get h2
    refine ⟨by simp [h3], fun i a b ha hb => ?_⟩
    cases i with
    | zero => simp at ha hb; subst ha; subst hb; exact h1
    | succ i => exact h4 i a b (by simpa using ha) (by simpa using hb)

theorem kdOf_eq {t : TypeId} {kd : Nat} (h : kdOf P t = some kd) : ∃ kt el d, P.underlying t = some (.map kt el) ∧ P.underlying kt = some d ∧ kcode d = some kd := by
  unfold kdOf at h
  split at h
  · rename_i kt el hu
    obtain ⟨d, h1, h2⟩ := Option.bind_eq_some_iff.1 h
    exact ⟨kt, el, d, hu, h1, h2⟩
  · cases h

theorem mzero_eq {t kt el : TypeId} (hu : P.underlying t = some (.map kt el)) {z : AV} (h : mzero P t = some z) : ∃ v, (P.info? el).bind (·.zero) = some v ∧ z = cAV v := by
  unfold mzero at h
  rw [hu] at h
  simp only [Option.map_eq_some_iff] at h
  obtain ⟨v, h1, rfl⟩ := h
  exact ⟨v, h1, rfl⟩

theorem alenm_run {H : AHeap} {t ky el : TypeId} (hH : HRep e H) (hu : P.underlying t = some (.map ky el)) {ty : TypeId} {x r : AV} {v : Value}
    (h : (alenm H x).map (fun n => AV.lit (.int .i64 n)) = some r) (hx : Rep e x v) : ∃ u, (Builtin.len_ #[t] ty #[v]).run P e.w = .ok u e.w ∧ Rep e r u := by
  simp only [Option.map_eq_some_iff] at h
  obtain ⟨m, h1, rfl⟩ := h
  unfold alenm at h1
  split at h1
  · cases h1; cases hx
    exact ⟨_, by simp [Builtin.len_, run_underlying hu, goInt], .lit _⟩
  · rename_i id
    split at h1
    · rename_i es hid
      cases h1
      cases hx
      obtain ⟨hN, hI, ents, clock, hg, hs, hkeys, hvals, hst⟩ := hH.at_ id _ hid
      have hget : (getObj (e.ρ id).1).run P e.w = .ok (.map ents clock) e.w := by simp only [getObj, Sem.run, hg]
      exact ⟨.int .i64 es.length, by simp [Builtin.len_, run_underlying hu, goInt, hget, hs], .lit _⟩
    · cases h1
  · cases h1

theorem equalIn_keq {t : TypeId} {d : TypeDesc} (hd : P.underlying t = some d) {k : Nat} (hk : kcode d = some k) {a b : Value} (ha : akind k (.lit a) = true) {r : Bool} (h : keq a b = some r) (n : Nat) (w : World) :
    (Op.equalIn (n + 1) t a b).run P w = .ok r w := by
  have hko := kind_of hk ha a rfl
  unfold keq at h
  split at h
  · split at h
    · rename_i hkk
      subst hkk
      cases h
      cases d <;> simp [kindOk] at hko
      exact run_equalIn_int _ _ _ _ _ _ _ hd
    · cases h
  · cases h
    cases d <;> simp [kindOk] at hko
    rw [beq_toListBytes]
    exact run_equalIn_string _ _ _ _ _ hd
  · cases h
    cases d <;> simp [kindOk] at hko
    exact run_equalIn_bool' _ _ _ _ _ hd
  · cases h

theorem isAgg_plain {t : TypeId} {d : TypeDesc} (hd : P.underlying t = some d) {k : Nat} (hk : kcode d = some k) : isAggB P t = false := by
  unfold isAggB
  rw [hd]
  cases d <;> simp [kcode] at hk <;> rfl

theorem part_plain {t : TypeId} {d : TypeDesc} (hd : P.underlying t = some d) {k : Nat} (hk : kcode d = some k) {vs : Array Value} {off : Nat} {v : Value} (hv : vs[off]? = some v) (w : World) : (part t vs off).run P w = .ok v w := by
  have h0 := run_isAgg hd w
  rw [isAgg_plain hd hk] at h0
  simp [part, h0, hv]

theorem eqFields_run : ∀ (fs : List Field) (l : List (Nat × Nat)) {cs ds : List AV} {xs ys : List Value} {r : Bool}, fs.mapM (eqField P) = some l → aeqs l cs ds = some r →
    Rep e (.agg cs) (.agg xs.toArray) → Rep e (.agg ds) (.agg ys.toArray) → (Op.eqFields 9999 xs.toArray ys.toArray fs).run P e.w = .ok r e.w
  | [], l, cs, ds, xs, ys, r, hl, h, _, _ => by
    simp at hl; subst hl
    simp only [aeqs, Option.some.injEq] at h
    subst h
    simp [Op.eqFields]
  | f :: fs, l, cs, ds, xs, ys, r, hl, h, hx, hy => by
    simp only [List.mapM_cons, Option.bind_eq_bind, Option.pure_def, Option.bind_eq_some_iff, Option.some.injEq] at hl
    obtain ⟨⟨off, k⟩, h1, l', h2, rfl⟩ := hl
    unfold eqField at h1
    split at h1
    · rename_i hname
      simp only [Option.map_eq_some_iff, Prod.mk.injEq] at h1
      obtain ⟨k', hk, rfl, rfl⟩ := h1
      obtain ⟨d, hd, hk⟩ := Option.bind_eq_some_iff.1 hk
      simp only [aeqs] at h
      split at h
      · rename_i a b ha hb
        split at h
        · rename_i hak
          have ga : ∃ v, xs[f.offset]? = some v ∧ v = a := by
            cases hx with
            | agg hl _ hr =>
              rename_i vs
              obtain ⟨v, hv⟩ := rep_agg_get hl ha
              refine ⟨v, by simpa using hv, ?_⟩
              have := hr _ _ _ ha hv
              cases this; rfl
          have gb : ∃ v, ys[f.offset]? = some v ∧ v = b := by
            cases hy with
            | agg hl _ hr =>
              rename_i vs
              obtain ⟨v, hv⟩ := rep_agg_get hl hb
              refine ⟨v, by simpa using hv, ?_⟩
              have := hr _ _ _ hb hv
              cases this; rfl
          obtain ⟨_, hva, rfl⟩ := ga
          obtain ⟨_, hvb, rfl⟩ := gb
          have pa := part_plain (P := P) hd hk (vs := xs.toArray) (by simpa using hva) e.w
          have pb := part_plain (P := P) hd hk (vs := ys.toArray) (by simpa using hvb) e.w
          split at h
          · rename_i hq
            have := equalIn_keq (P := P) hd hk hak hq 9998 e.w
            simp only [Op.eqFields, if_pos hname, Sem.run_bind, pa, pb, Result.andThen_ok, this]
            simp only [Bool.not_true, Bool.false_eq_true, if_false]
            exact eqFields_run fs l' h2 h hx hy
          · rename_i hq
            cases h
            have := equalIn_keq (P := P) hd hk hak hq 9998 e.w
            simp only [Op.eqFields, if_pos hname, Sem.run_bind, pa, pb, Result.andThen_ok, this]
            simp
          · cases h
        · cases h
      · cases h
    · cases h1

theorem eqs_run {op : BinOp} {t : TypeId} {x y : Operand} {ne : Bool} {l : List (Nat × Nat)} (hne : eqNe op = some ne) (hl : eqSpec P t = some l) {a b : AV} {va vb : Value} {r : Bool}
    (h : eqsV l a b = some r) (ha : Rep e a va) (hb : Rep e b vb) : ((eqGuard op t x y va vb).run P e.w).andThen (fun _ w => (binOp op t va vb).run P w) = (.ok (.bool (xor ne r)) e.w : Result Value) := by
  unfold eqsV at h
  split at h
  · rename_i cs ds
    unfold eqSpec at hl
    split at hl
    · rename_i fs hu
      split at hl
      · rename_i hc
        cases ha with
        | agg hla h1a h2a =>
          cases hb with
          | agg hlb h1b h2b =>
            rename_i xs ys
            have hfs : P.fieldsOf t = fs := by simp [Program.fieldsOf, hu]
            have hrun := eqFields_run (P := P) fs.toList l hl h (.agg hla h1a h2a) (.agg hlb h1b h2b)
            have hE : (Op.equalIn 10000 t (.agg xs.toArray) (.agg ys.toArray)).run P e.w = .ok r e.w := by
              rw [run_equalIn_struct e.w 9999 t _ _ (by rw [hfs]; exact hu) hc.1, hfs]
              exact hrun
            rw [run_eqGuard_agg _ _ _ _ _ _ _ hc.2]
            cases op <;> simp [eqNe] at hne <;> subst hne
            · rw [Result.andThen_ok, run_eql_struct, hE]; simp
            · rw [Result.andThen_ok, run_neq_struct, hE]; simp
      · cases hl
    · cases hl
  · cases h

theorem aop_sound {An : Ann} {ao : AOp} (hc : cop P An o = some ao) (g : Gam e n s a) {v : AV} {H' : AHeap} {N' : Nat} (h : aop ao s = some (v, H', N')) : OpRes P o a e s.H v H' N' := by
  unfold cop at hc
  split at hc
  case h_1 x ho =>
    cases hc; simp only [aop, Option.some.injEq, Prod.mk.injEq] at h
    obtain ⟨rfl, rfl, rfl⟩ := h
    rw [← g.N]
    exact .pure g.H (by simp [execOp, ho]) (g.ev x)
  case h_2 x ho =>
    cases hc; simp only [aop, Option.some.injEq, Prod.mk.injEq] at h
    obtain ⟨rfl, rfl, rfl⟩ := h
    rw [← g.N]
    exact .pure g.H (by simp [execOp, ho]) (g.ev x)
  case h_3 c x y ho =>
    cases hc; simp only [aop] at h
    split at h
    · rename_i t hct
      simp only [Option.some.injEq, Prod.mk.injEq] at h
      obtain ⟨rfl, rfl, rfl⟩ := h
      rw [← g.N]
      have hcv := g.ev c
      rw [hct] at hcv
      generalize hgc : a.eval c = cv at hcv
      cases hcv
      cases t
      · exact .pure g.H (by simp [execOp, ho, hgc, asBool]) (g.ev y)
      · exact .pure g.H (by simp [execOp, ho, hgc, asBool]) (g.ev x)
    · cases h
  case h_4 x ho =>
    cases hc
    refine .ofP g h fun r hr => ?_
    obtain ⟨rfl, ad, had⟩ := anil_run hr (g.ev x)
    exact ⟨_, by simp [execOp, ho, had], had ▸ g.ev x⟩
  case h_5 op t x y ty ho =>
    split at hc
    · rename_i ne l hne hl
      cases hc
      refine .ofP g h fun r hr => ?_
      simp only [Option.map_eq_some_iff] at hr
      obtain ⟨b, hb, rfl⟩ := hr
      exact ⟨.bool (xor ne b), by simp only [execOp, ho, Sem.run_bind]; rw [eqs_run (x := x) (y := y) hne hl hb (g.ev x) (g.ev y)]; rfl, .lit _⟩
    · cases hc
      refine .ofP g h fun r hr => ?_
      obtain ⟨u, h1, h2⟩ := abin_run (P := P) (x := x) (y := y) hr (g.ev x) (g.ev y)
      refine ⟨u, ?_, h2⟩
      simp only [execOp, ho, Sem.run_bind] at h1 ⊢
      rw [h1]; rfl
  case h_6 op t x ho =>
    cases hc
    refine .ofP g h fun r hr => ?_
    obtain ⟨u, h1, h2⟩ := aun_run (P := P) hr (g.ev x)
    exact ⟨u, by simp [execOp, ho, h1], h2⟩
  case h_7 src dst x ho =>
    split at hc
    · rename_i ks kd hs hd
      cases hc; simp only [aop] at h
      split at h
      · rename_i kx m hx
        simp only [Option.some.injEq, Prod.mk.injEq] at h
        obtain ⟨rfl, rfl, rfl⟩ := h
        rw [← g.N]
        have hxv := g.ev x
        rw [hx] at hxv
        generalize hgx : a.eval x = xv at hxv
        cases hxv
        exact .pure g.H (by simp [execOp, ho, hgx, convert, run_underlying hs, run_underlying hd, Conv.intToInt]) (.lit _)
      · cases h
    · cases hc
  case h_8 x i ho =>
    cases hc; simp only [aop] at h
    split at h
    · rename_i cs hx
      refine .ofP g h fun r hr => ?_
      have hxv := g.ev x
      rw [hx] at hxv
      generalize hgx : a.eval x = xv at hxv
      cases hxv with
      | tup hl hh =>
        obtain ⟨u, hu⟩ := rep_agg_get hl hr
        exact ⟨u, by simp [execOp, ho, hgx, Instr.extract, hu], hh i r u hr hu⟩
    · cases h
  case h_9 t x f ho =>
    split at hc
    · rename_i fs hu
      split at hc
      · rename_i fl hf
        split at hc
        · rename_i sz d hsz hd
          cases hc; simp only [aop] at h
          split at h
          · rename_i cs hx
            refine .ofP g h fun r hr => ?_
            have hxv := g.ev x
            rw [hx] at hxv
            obtain ⟨vs, hvs, u, h1, h2⟩ := apart_run hd hsz hr hxv
            exact ⟨u, by simp [execOp, ho, Instr.field, run_underlying hu, hf, hvs, asAgg, h1], h2⟩
          · cases h
        · cases hc
      · cases hc
    · cases hc
  case h_10 t x f ho =>
    split at hc
    · rename_i fs hu
      split at hc
      · rename_i fl hf
        split at hc
        · rename_i sz hsz
          cases hc
          refine .ofP g h fun r hr => ?_
          obtain ⟨u, h1, h2⟩ := afield_run hu hf ⟨_, hsz⟩ hr (g.ev x)
          exact ⟨u, by simp [execOp, ho, h1], h2⟩
        · cases hc
      · cases hc
    · cases hc
  case h_11 t x i ho =>
    split at hc
    · rename_i el hu
      simp only [Option.map_eq_some_iff] at hc
      obtain ⟨sz, hsz, rfl⟩ := hc
      refine .ofP g h fun r hr => ?_
      obtain ⟨u, h1, h2⟩ := aindex_run hu hsz hr (g.ev x) (g.ev i)
      exact ⟨u, by simp [execOp, ho, h1], h2⟩
    · rename_i len el hu
      simp only [Option.map_eq_some_iff] at hc
      obtain ⟨sz, hsz, rfl⟩ := hc
      refine .ofP g h fun r hr => ?_
      obtain ⟨u, h1, h2⟩ := aindexP_run hu hsz hr (g.ev x) (g.ev i)
      exact ⟨u, by simp [execOp, ho, h1], h2⟩
    · cases hc
  case h_12 t x i ho =>
    split at hc
    · rename_i hu
      cases hc
      refine .ofP g h fun r hr => ?_
      obtain ⟨u, h1, h2⟩ := aidxs_run hu hr (g.ev x) (g.ev i)
      exact ⟨u, by simp [execOp, ho, h1], h2⟩
    · rename_i len el hu
      split at hc
      · rename_i sz d hsz hd
        cases hc
        refine .ofP g h fun r hr => ?_
        obtain ⟨u, h1, h2⟩ := aindexA_run hu hd hsz hr (g.ev x) (g.ev i)
        exact ⟨u, by simp [execOp, ho, h1], h2⟩
      · cases hc
    · cases hc
  case h_13 t x lo hi mx ho =>
    split at hc
    · rename_i el hu
      simp only [Option.map_eq_some_iff] at hc
      obtain ⟨sz, hsz, rfl⟩ := hc
      refine .ofP g h fun r hr => ?_
      obtain ⟨u, h1, h2⟩ := aslice_run hu hsz hr (g.ev x) g.evO g.evO g.evO
      exact ⟨u, by simp [execOp, ho, h1], h2⟩
    · rename_i hu
      cases hc
      refine .ofP g h fun r hr => ?_
      obtain ⟨u, h1, h2⟩ := strSlice_run hu hr (g.ev x) g.evO g.evO
      exact ⟨u, by simp [execOp, ho, h1], h2⟩
    · rename_i nn el hu
      simp only [Option.map_eq_some_iff] at hc
      obtain ⟨sz, hsz, rfl⟩ := hc
      refine .ofP g h fun r hr => ?_
      obtain ⟨u, h1, h2⟩ := asliceA_run g.H hu hsz hr (g.ev x) g.evO g.evO
      exact ⟨u, by simp [execOp, ho, h1], h2⟩
    · cases hc
  case h_14 t x ho =>
    split at hc
    · rename_i hcon
      cases hc; simp only [aop, Option.some.injEq, Prod.mk.injEq] at h
      obtain ⟨rfl, rfl, rfl⟩ := h
      rw [← g.N]
      exact .pure g.H (by simp [execOp, ho, run_makeInterface, hcon]) (.ifc (g.ev x))
    · cases hc
  case h_15 f first capt ho =>
    cases hc; simp only [aop, Option.some.injEq, Prod.mk.injEq] at h
    obtain ⟨rfl, rfl, rfl⟩ := h
    rw [← g.N]
    refine .pure (rv := .func f (first.toList.map a.eval).toArray (capt.toList.map a.eval).toArray) g.H ?_ (.fn (by simp) (by simp) (g.evs _) (g.evs _))
    simp only [execOp, ho, Instr.makeFunc, Sem.run_bind, Sem.run_pure, Result.andThen_ok]
    congr 3 <;> (apply Array.ext'; simp)
  case h_16 t parts ho =>
    split at hc
    · rename_i fs hu
      split at hc
      · rename_i ti hi
        split at hc
        · rename_i z places hz hp
          split at hc
          · rename_i hall
            simp only [Option.map_eq_some_iff] at hc
            obtain ⟨ps, hps, rfl⟩ := hc
            obtain ⟨hpl, hpg⟩ := mapM_get hps
            refine .ofP g h fun r hr => ?_
            simp only [Option.map_eq_some_iff] at hr
            obtain ⟨cs, hcs, rfl⟩ := hr
            have hrp : (parts.map fun x => (x.1, a.eval x.2)) = ((parts.toList.map fun x => (x.1, a.eval x.2))).toArray := by apply Array.ext'; simp
            obtain ⟨u, h1, h2⟩ := build_run (P := P) (e := e) hu hi hz (fun u hu => List.all_eq_true.1 hall u hu) hp (parts := ps.map fun x => (x.1, x.2.1, s.ev x.2.2)) (rp := parts.toList.map fun x => (x.1, a.eval x.2))
              (by simp [hpl]) (fun i x y hx hy => by
                simp only [List.getElem?_map, Option.map_eq_some_iff] at hx hy
                obtain ⟨x', hx', rfl⟩ := hx
                obtain ⟨y', hy', rfl⟩ := hy
                have := hpg i y' x' hy' hx'
                simp only [Option.map_eq_some_iff] at this
                obtain ⟨q, hq, rfl⟩ := this
                exact ⟨hq, g.ev _⟩) hcs
            refine ⟨u, ?_, h2⟩
            simp only [execOp, ho]
            rw [show (parts.map fun (i, x) => (i, a.eval x)) = ((parts.toList.map fun x => (x.1, a.eval x.2))).toArray from hrp]
            simp [h1]
          · cases hc
        · cases hc
      · cases hc
    · cases hc
  case h_17 t len parts ho =>
    split at hc
    · rename_i el hu
      split at hc
      · rename_i ti hi
        split at hc
        · rename_i z hz
          simp only at hc
          generalize hzs : (if len * ti.size = 0 then [] else zrow z (len * ti.size)) = zs at hc
          split at hc
          · rename_i hcond
            obtain ⟨h24, hall⟩ := hcond
            cases hc
            simp only [aop] at h
            split at h
            · rename_i cs hcs
              have hrp : (parts.map fun x => (x.1, a.eval x.2)) = ((parts.toList.map fun x => (x.1, a.eval x.2))).toArray := by apply Array.ext'; simp
              obtain ⟨cells, hl, hrel, hrun⟩ := bslice_run (P := P) (e := e) hu hi hz h24 hzs.symm (fun u hu => List.all_eq_true.1 hall u hu) (parts := (parts.toList.map fun x => (x.1 * ti.size, ti.size, cX x.2)).map fun x => (x.1, x.2.1, s.ev x.2.2)) (rp := parts.toList.map fun x => (x.1, a.eval x.2))
                (by simp) (fun i x y hx hy => by
                  simp only [List.map_map, List.getElem?_map, Option.map_eq_some_iff] at hx hy
                  obtain ⟨x', hx', rfl⟩ := hx
                  obtain ⟨y', hy', rfl⟩ := hy
                  rw [hx'] at hy'
                  cases hy'
                  exact ⟨rfl, g.ev _⟩) hcs
              have hex : ∀ e' : Env, e'.w = e.w.alloc (.cells cells.toArray el) → (execOp a.eval o).run P e.w = .ok (.value (.slice (some ⟨e.w.heap.size, 0, none⟩) len len)) e'.w := fun e' he' => by
                simp only [execOp, ho]
                rw [show (parts.map fun (i, x) => (i, a.eval x)) = ((parts.toList.map fun x => (x.1, a.eval x.2))).toArray from hrp, he']
                simp [hrun]
              have hcl : cs.length = len * ti.size := by have := hrel.1; omega
              split at h
              · simp only [Option.some.injEq, Prod.mk.injEq] at h
                obtain ⟨rfl, rfl, rfl⟩ := h
                obtain ⟨g1, g2⟩ := new_obj g.H el (rest := []) hrel.1 hrel.2
                rw [List.append_nil] at g1 g2
                rw [← g.N]
                exact ⟨_, _, e.allocO (.cells cells.toArray el), hex _ rfl, .inl rfl, rep_new_ms el (Nat.le_refl _) (by omega), g1, rfl, g2⟩
              · simp only [Option.some.injEq, Prod.mk.injEq] at h
                obtain ⟨rfl, rfl, rfl⟩ := h
                obtain ⟨g1, g2, g3⟩ := hrel.memAt_new (rest := []) g.H el
                rw [List.append_nil] at g1 g2 g3
                exact ⟨_, _, e.allocI (.cells cells.toArray el), hex _ rfl, .inl rfl, rep_chunks (by simp) (.inr rfl) (Nat.le_refl _) (fun _ => rfl) (by omega) g3, g1, g.N, g2⟩
            · cases h
          · cases hc
        · cases hc
      · cases hc
    · cases hc
  case h_18 t x ho =>
    split at hc
    · rename_i sz d hsz hd
      cases hc
      split at h
      · refine .ofP g h fun r hr => ?_
        have hnone : HRep e (fun _ => none) := ⟨(fun id o ho => by cases ho), (fun i j o o' ho => by cases ho), g.H.imm, g.H.gl⟩
        obtain ⟨u, h1, h2⟩ := aload_run hnone hd hsz hr (g.ev x)
        exact ⟨u, by simp [execOp, ho, h1], h2⟩
      · refine .ofP g h fun r hr => ?_
        obtain ⟨u, h1, h2⟩ := aload_run g.H hd hsz hr (g.ev x)
        exact ⟨u, by simp [execOp, ho, h1], h2⟩
    · cases hc
  case h_19 t x y ho =>
    simp only [Option.map_eq_some_iff] at hc
    obtain ⟨sz, hsz, rfl⟩ := hc
    simp only [aop, Option.map_eq_some_iff, Prod.mk.injEq] at h
    obtain ⟨H1, h1, rfl, rfl, rfl⟩ := h
    obtain ⟨e', h2, h3, h4, h5⟩ := astore_run (P := P) g.H hsz h1 (g.ev x) (g.ev y)
    exact ⟨_, _, e', by simp only [execOp, ho, Sem.run_bind, h2, Result.andThen_ok, Sem.run_pure], .inr ⟨rfl, rfl⟩, .lit _, h3, h4.trans g.N, h5⟩
  case h_20 t ho =>
    split at hc
    · rename_i z hz
      simp only [Option.map_eq_some_iff] at hc
      obtain ⟨cs, hcs, rfl⟩ := hc
      simp only [aop, Option.some.injEq, Prod.mk.injEq] at h
      obtain ⟨rfl, rfl, rfl⟩ := h
      obtain ⟨u, e', h2, h3, h4, h5, h6⟩ := alloc_run (P := P) g.H hz hcs (rep_cAV e z)
      rw [← g.N]
      exact ⟨_, _, e', by simp only [execOp, ho, Sem.run_bind, h2, Result.andThen_ok, Sem.run_pure], .inl rfl, h3, h4, h5, h6⟩
    · cases hc
  case h_21 t x ho =>
    cases hc
    simp only [aop, Option.map_eq_some_iff] at h
    obtain ⟨cs, hcs, h⟩ := h
    split at h
    · simp only [Prod.mk.injEq] at h
      obtain ⟨rfl, rfl, rfl⟩ := h
      obtain ⟨hb1, hb2⟩ := cells_list hcs (g.ev x)
      have hrel : RelC e cs (a.eval x).cells.toList := ⟨hb1, hb2⟩
      obtain ⟨g1, g2, g3⟩ := hrel.memAt_new (rest := []) g.H t
      rw [List.append_nil] at g1 g2 g3
      refine ⟨.value (.pointer (some ⟨e.w.heap.size, 0, none⟩)), _, e.allocI (.cells (a.eval x).cells.toList.toArray t), ?_, .inl rfl, rep_ip_intro (o := 0) (.inr rfl) g3, g1, g.N, g2⟩
      simp only [execOp, ho, Instr.box, newVar, newRow, newObj, Sem.run_bind, Sem.run_pure, Result.andThen_ok, Sem.run]
      rfl
    · simp only [Prod.mk.injEq] at h
      obtain ⟨rfl, rfl, rfl⟩ := h
      obtain ⟨u, e', h2, h3, h4, h5, h6⟩ := box_run (P := P) g.H t hcs (g.ev x)
      rw [← g.N]
      exact ⟨_, _, e', by simp only [execOp, ho, Sem.run_bind, h2, Result.andThen_ok, Sem.run_pure], .inl rfl, h3, h4, h5, h6⟩
  case h_22 t l c ho =>
    split at hc
    · rename_i el hu
      split at hc
      · rename_i ti hi
        split at hc
        · rename_i z hz
          split at hc
          · rename_i hall
            cases hc
            simp only [aop, Option.map_eq_some_iff, Prod.mk.injEq] at h
            obtain ⟨⟨m, k⟩, hmk, rfl, rfl, rfl⟩ := h
            obtain ⟨u, e', h2, h3, h4, h5, h6⟩ := make_run (P := P) g.H hu hi hz (relC_zero hall e) hmk (g.ev l) (g.ev c)
            rw [← g.N]
            exact ⟨_, _, e', by simp only [execOp, ho, Sem.run_bind, h2, Result.andThen_ok, Sem.run_pure], .inl rfl, h3, h4, h5, h6⟩
          · cases hc
        · cases hc
      · cases hc
    · cases hc
  case h_23 f args at_ ho =>
    cases hc
    split at h
    · simp [aop] at h
    · split at h <;> simp [aop] at h
  case h_24 args argTypes ho =>
    split at hc
    · rename_i x t hargs htys
      have ha : args = #[x] := by apply Array.ext'; simpa using hargs
      have ht : argTypes = #[t] := by apply Array.ext'; simpa using htys
      subst ha; subst ht
      split at hc
      · rename_i hu
        cases hc
        refine .ofP g h fun r hr => ?_
        obtain ⟨u, h1, h2⟩ := alen_run (P := P) (ty := o.type) (.inl ⟨rfl, hu⟩) hr (g.ev x)
        exact ⟨u, by simp [execOp, ho, resolve, invoke, builtin, h1], h2⟩
      · rename_i el hu
        cases hc
        refine .ofP g h fun r hr => ?_
        obtain ⟨u, h1, h2⟩ := alen_run (P := P) (ty := o.type) (.inr (.inl ⟨rfl, el, hu⟩)) hr (g.ev x)
        exact ⟨u, by simp [execOp, ho, resolve, invoke, builtin, h1], h2⟩
      · rename_i ky el hu
        cases hc
        refine .ofP g h fun r hr => ?_
        obtain ⟨u, h1, h2⟩ := alenm_run (P := P) (ty := o.type) g.H hu hr (g.ev x)
        exact ⟨u, by simp [execOp, ho, resolve, invoke, builtin, h1], h2⟩
      · cases hc
    · cases hc
  case h_25 args argTypes ho =>
    split at hc
    · rename_i x y t t' hargs htys
      have ha : args = #[x, y] := by apply Array.ext'; simpa using hargs
      have ht : argTypes = #[t, t'] := by apply Array.ext'; simpa using htys
      subst ha; subst ht
      split at hc
      · rename_i htt
        subst htt
        split at hc
        · rename_i el hu
          split at hc
          · rename_i ti hi
            split at hc
            · rename_i z hz
              split at hc
              · rename_i hzs
                cases hc
                split at h
                · simp only [aop] at h
                  split at h
                  · rw [← g.N] at h
                    obtain ⟨u, e', h2, h3, h4, h5, h6⟩ := aappend_run (P := P) (ty := o.type) g.H hu hi hz hzs h (g.ev x) (g.ev y)
                    exact ⟨_, _, e', by simp [execOp, ho, resolve, invoke, builtin, h2], .inl rfl, h3, h4, h5, h6⟩
                  · cases h
                · split at h
                  · simp only [aop] at h
                    split at h
                    · rw [← g.N] at h
                      obtain ⟨u, e', h2, h3, h4, h5, h6⟩ := aappend_run (P := P) (ty := o.type) g.H hu hi hz hzs h (g.ev x) (g.ev y)
                      exact ⟨_, _, e', by simp [execOp, ho, resolve, invoke, builtin, h2], .inl rfl, h3, h4, h5, h6⟩
                    · cases h
                  simp only [aop] at h
                  rw [← g.N] at h
                  obtain ⟨u, e', h2, h3, h4, h5, h6⟩ := aappend_run (P := P) (ty := o.type) g.H hu hi hz hzs h (g.ev x) (g.ev y)
                  exact ⟨_, _, e', by simp [execOp, ho, resolve, invoke, builtin, h2], .inl rfl, h3, h4, h5, h6⟩
              · cases hc
            · cases hc
          · cases hc
        · cases hc
      · cases hc
    · cases hc
  case h_26 t ho =>
    cases hc
    simp only [aop, Option.some.injEq, Prod.mk.injEq] at h
    obtain ⟨rfl, rfl, rfl⟩ := h
    obtain ⟨e', h2, h3, h4, h5, h6⟩ := mkmap_run (P := P) g.H t
    rw [← g.N]
    exact ⟨_, _, e', by simp only [execOp, ho, Option.map_none, Sem.run_bind, h2, Result.andThen_ok, Sem.run_pure], .inl rfl, h3, h4, h5, h6⟩
  case h_27 t m k ok ho =>
    split at hc
    · rename_i kd z hkd hz
      cases hc
      simp only [aop] at h
      split at h
      · rename_i hak
        refine .ofP g h fun r hr => ?_
        obtain ⟨kt, el, d, hu, hd, hkc⟩ := kdOf_eq hkd
        obtain ⟨zv, hzv, rfl⟩ := mzero_eq hu hz
        obtain ⟨u, h1, h2⟩ := alookup_run (P := P) g.H hu hd hzv (rep_cAV e zv) hr (g.ev m) (g.ev k) (kind_of hkc hak)
        exact ⟨u, by simp [execOp, ho, h1], h2⟩
      · cases h
    · cases hc
  case h_28 t m k v ho =>
    simp only [Option.map_eq_some_iff] at hc
    obtain ⟨kd, hkd, rfl⟩ := hc
    simp only [aop] at h
    split at h
    · rename_i hak
      simp only [Option.map_eq_some_iff, Prod.mk.injEq] at h
      obtain ⟨H1, h1, rfl, rfl, rfl⟩ := h
      obtain ⟨kt, el, d, hu, hd, hkc⟩ := kdOf_eq hkd
      obtain ⟨e', h2, h3, h4, h5⟩ := amapset_run (P := P) g.H hu hd h1 (g.ev m) (g.ev k) (g.ev v) (kind_of hkc hak)
      exact ⟨_, _, e', by simp only [execOp, ho, Sem.run_bind, h2, Result.andThen_ok, Sem.run_pure], .inr ⟨rfl, rfl⟩, .lit _, h3, h4.trans g.N, h5⟩
    · cases h
  case h_29 t m k v ho =>
    simp only [Option.map_eq_some_iff] at hc
    obtain ⟨kd, hkd, rfl⟩ := hc
    simp only [aop] at h
    split at h
    · rename_i hak
      simp only [Option.map_eq_some_iff, Prod.mk.injEq] at h
      obtain ⟨H1, h1, rfl, rfl, rfl⟩ := h
      obtain ⟨kt, el, d, hu, hd, hkc⟩ := kdOf_eq hkd
      obtain ⟨e', h2, h3, h4, h5⟩ := amapset_run (P := P) g.H hu hd h1 (g.ev m) (g.ev k) (g.ev v) (kind_of hkc hak)
      exact ⟨_, _, e', by simp only [execOp, ho, Sem.run_bind, h2, Result.andThen_ok, Sem.run_pure], .inr ⟨rfl, rfl⟩, .lit _, h3, h4.trans g.N, h5⟩
    · cases h
  case h_30 args argTypes ho =>
    split at hc
    · rename_i m k t hargs htys
      have ha : args = #[m, k] := by apply Array.ext'; simpa using hargs
      subst ha
      simp only [Option.map_eq_some_iff] at hc
      obtain ⟨kd, hkd, rfl⟩ := hc
      simp only [aop] at h
      split at h
      · rename_i hak
        simp only [Option.map_eq_some_iff, Prod.mk.injEq] at h
        obtain ⟨H1, h1, rfl, rfl, rfl⟩ := h
        obtain ⟨kt, el, d, hu, hd, hkc⟩ := kdOf_eq hkd
        obtain ⟨e', h2, h3, h4, h5⟩ := amapdel_run (P := P) (ty := o.type) g.H hu hd htys h1 (g.ev m) (g.ev k) (kind_of hkc hak)
        exact ⟨_, _, e', by simp [execOp, ho, resolve, invoke, builtin, h2], .inl rfl, .tup (vs := []) rfl (fun i c u hc => by simp at hc), h3, h4.trans g.N, h5⟩
      · cases h
    · cases hc
  case h_31 => cases hc; simp [aop] at h
  case h_32 args argTypes ho =>
    split at hc
    · rename_i x y t t' hargs htys
      have ha : args = #[x, y] := by apply Array.ext'; simpa using hargs
      have ht : argTypes = #[t, t'] := by apply Array.ext'; simpa using htys
      subst ha; subst ht
      split at hc
      · rename_i el hu
        simp only [Option.map_eq_some_iff] at hc
        obtain ⟨sz, hsz, rfl⟩ := hc
        simp only [aop, Option.map_eq_some_iff, Prod.mk.injEq] at h
        obtain ⟨⟨m, H1⟩, h1, rfl, rfl, rfl⟩ := h
        obtain ⟨e', h2, h3, h4, h5⟩ := acopy_run (P := P) (t' := t') (ty := o.type) g.H hu hsz h1 (g.ev x) (g.ev y)
        exact ⟨_, _, e', by simp [execOp, ho, resolve, invoke, builtin, h2], .inl rfl, .lit _, h3, h4.trans g.N, h5⟩
      · cases hc
    · cases hc
  case h_33 args at_ ho =>
    split at hc
    · rename_i x y hargs
      have ha : args = #[x, y] := by apply Array.ext'; simpa using hargs
      subst ha
      cases hc
      refine .ofP g h fun r hr => ?_
      obtain ⟨u, h1, h2⟩ := amm_run (P := P) hr (g.ev x) (g.ev y) at_ o.type
      simp only [cond_true] at h1
      exact ⟨u, by simp [execOp, ho, resolve, invoke, builtin, h1], h2⟩
    · rename_i x y z hargs
      have ha : args = #[x, y, z] := by apply Array.ext'; simpa using hargs
      subst ha
      cases hc
      refine .ofP g h fun r hr => ?_
      obtain ⟨u, h1, h2⟩ := amm3_run (P := P) hr (g.ev x) (g.ev y) (g.ev z) at_ o.type
      simp only [cond_true] at h1
      exact ⟨u, by simp [execOp, ho, resolve, invoke, builtin, h1], h2⟩
    · cases hc
  case h_34 args at_ ho =>
    split at hc
    · rename_i x y hargs
      have ha : args = #[x, y] := by apply Array.ext'; simpa using hargs
      subst ha
      cases hc
      refine .ofP g h fun r hr => ?_
      obtain ⟨u, h1, h2⟩ := amm_run (P := P) hr (g.ev x) (g.ev y) at_ o.type
      simp only [cond_false] at h1
      exact ⟨u, by simp [execOp, ho, resolve, invoke, builtin, h1], h2⟩
    · rename_i x y z hargs
      have ha : args = #[x, y, z] := by apply Array.ext'; simpa using hargs
      subst ha
      cases hc
      refine .ofP g h fun r hr => ?_
      obtain ⟨u, h1, h2⟩ := amm3_run (P := P) hr (g.ev x) (g.ev y) (g.ev z) at_ o.type
      simp only [cond_false] at h1
      exact ⟨u, by simp [execOp, ho, resolve, invoke, builtin, h1], h2⟩
    · cases hc
  case h_35 args argTypes ho =>
    split at hc
    · rename_i x t hargs htys
      have ha : args = #[x] := by apply Array.ext'; simpa using hargs
      have ht : argTypes = #[t] := by apply Array.ext'; simpa using htys
      subst ha; subst ht
      split at hc
      · rename_i el hu
        split at hc
        · rename_i ti hi
          split at hc
          · rename_i z hz
            split at hc
            · rename_i hall
              cases hc
              simp only [aop, Option.map_eq_some_iff, Prod.mk.injEq] at h
              obtain ⟨H1, h1, rfl, rfl, rfl⟩ := h
              obtain ⟨e', h2, h3, h4, h5⟩ := aclear_run (P := P) (ty := o.type) g.H hu hi hz (relC_zero hall e) h1 (g.ev x)
              exact ⟨_, _, e', by simp [execOp, ho, resolve, invoke, builtin, h2], .inl rfl, .tup (vs := []) rfl (fun i c u hc => by simp at hc), h3, h4.trans g.N, h5⟩
            · cases hc
          · cases hc
        · cases hc
      · cases hc
    · cases hc
  case h_36 => cases hc

end
end Go.Fw
