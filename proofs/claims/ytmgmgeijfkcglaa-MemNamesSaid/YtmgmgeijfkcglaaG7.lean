/- Framework, part 16: code, and functions. -/
import Derived.Test.YtmgmgeijfkcglaaG6
namespace Go.Fw
set_option linter.unusedSimpArgs false
set_option linter.unusedVariables false
open Go
set_option linter.unusedSectionVars false
variable [Globals]

/-- Code, compiled; within a round there is no further loop over a function. -/
def ccode (P : Program) (An : Ann) (n : Nat) (inR : Bool) : Code → Option ACode
  | .skip => some .skip
  | .region _ ops draw => some (match (if draw = true then cdraw P An n ops else ops.toList.mapM (coper P An n ops)) with
    | some l => .ops l
    | none => .bad)
  | .seq a b => match ccode P An n inR a, ccode P An n inR b with
    | some x, some y => some (.seq x y)
    | _, _ => none
  | .cond c a b => match ccode P An n inR a, ccode P An n inR b with
    | some x, some y => some (.cond (cX c) x y)
    | _, _ => none
  | .block id a => (ccode P An n inR a).map (.block id)
  | .loop a => (ccode P An n inR a).map .loop
  | .exit id => some (.exit id)
  | .ret => some .ret
  | .rangeFunc f params asg body => match ccode P An n true asg, ccode P An n true body with
    | some x, some y => if inR = false ∧ params.toList.all (fun t => decide (t < n)) = true then some (.range (cX f) params.toList x y) else some .bad
    | _, _ => none
  | _ => some .bad

section
variable {P : Program} {n : Nat}

theorem wpIn_loop_ghost {F : Fence} {k : Nat} {Q : Exit → Act → World → Prop} {a : Act} {w : World} {c : Code} (I : Nat → Act → World → Prop) (n₀ : Nat) (h₀ : I n₀ a w)
    (round : ∀ n a w, I n a w → c.wpIn F k P (Exit.then (fun a' w' => ∃ n', n' < n ∧ I n' a' w') Q) a w) : (Code.loop c).wpIn F k P Q a w := by
  refine wpIn_loop (fun a w => ∃ n, I n a w) (fun a w => leastOf (fun n => I n a w)) ⟨n₀, h₀⟩ ?_
  intro a w hI
  refine wpIn_mono (round _ a w (leastOf_spec hI).1) ?_
  intro e a' w' hq
  cases e with
  | normal =>
    obtain ⟨n', hlt, hI'⟩ := hq
    exact show (∃ n, I n a' w') ∧ leastOf (fun n => I n a' w') < leastOf (fun n => I n a w) from ⟨⟨n', hI'⟩, Nat.lt_of_le_of_lt ((leastOf_spec ⟨n', hI'⟩).2 n' hI') hlt⟩
  | exit id => exact hq
  | goto l => exact hq
  | ret => exact hq
  | panic ch => exact hq
  | outgrown => exact hq

theorem set_del {H : AHeap} {id : Nat} {o : AObj} : (H.set id o).del id = H.del id := by
  funext i
  simp only [AHeap.set, AHeap.del]
  split <;> rfl

theorem putL_rep {e : Env} : ∀ (ps : List Nat) (args : List AV) (vs : List Value) (A : Nat → AV) (tmps : Array Value), args.length = ps.length → vs.length = ps.length → (∀ t ∈ ps, t < n) → tmps.size = n →
    (∀ t : Nat, Rep e (A t) (tmps.getD t undef)) → (∀ (i : Nat) (c : AV) (v : Value), args[i]? = some c → vs[i]? = some v → Rep e c v) →
    ((ps.zip vs).foldl (fun t (x : Nat × Value) => t.setIfInBounds x.1 x.2) tmps).size = n ∧ ∀ t : Nat, Rep e (putL A ps args t) (((ps.zip vs).foldl (fun t (x : Nat × Value) => t.setIfInBounds x.1 x.2) tmps).getD t undef)
  | [], args, vs, A, tmps, ha, hv, _, hs, hA, _ => by
    have : args = [] := List.eq_nil_of_length_eq_zero ha
    subst this
    exact ⟨hs, hA⟩
  | p :: ps, a :: args, v :: vs, A, tmps, ha, hv, hp, hs, hA, hr => by
    simp only [List.zip_cons_cons, List.foldl_cons]
    refine putL_rep ps args vs _ _ (by simpa using ha) (by simpa using hv) (fun t ht => hp t (by simp [ht])) (by simpa using hs) (fun t => ?_) (fun i c u hc hu => hr (i + 1) c u (by simpa using hc) (by simpa using hu))
    rw [getD_set _ _ _ _ (by rw [hs]; exact hp p (by simp))]
    split
    · exact hr 0 a v rfl rfl
    · exact hA t
  | p :: ps, [], vs, A, tmps, ha, hv, _, _, _, _ => by simp at ha
  | p :: ps, a :: args, [], A, tmps, ha, hv, _, _, _, _ => by simp at hv

def jumpOf : AExit → Code
  | .normal => .skip
  | .exit i => .exit i
  | .ret => .ret

theorem awp_sound (hm : P.follows .mixedOrders = true) {An : Ann} : ∀ (c : Code) (inR : Bool) (r : Option Nat) (ac : ACode) (Q : AExit → St → Prop) (s : St) (e e0 : Env) (H0 : AHeap) (a : Act), ccode P An n inR c = some ac → (inR = false → r = none) → awp P ac Q s →
    Gam e n s a → Marks e0 e s.H a.defers → Tr e0 H0 e s.H → c.wpIn (FnR r) 0 P (Sat n e0 H0 Q) a e.w := by
  intro c
  induction c with
  | skip => intro inR r ac Q s e e0 H0 a hc hr h g hd ht; cases hc; exact wpIn_skip ⟨.normal, trivial, e, s, rfl, h, g, hd, ht⟩
  | region id ops draw =>
    intro inR r ac Q s e e0 H0 a hc hr h g hd ht
    simp only [ccode, Option.some.injEq] at hc
    split at hc
    · rename_i l hl
      subst hc
      split at hl
      · rename_i hdr
        subst hdr
        exact cdraw_sound hm hl h g hd ht (fun a w hn => ⟨.normal, trivial, hn⟩)
      · rename_i hdr
        have : draw = false := by simpa using hdr
        subst this
        exact wpIn_region_list (awpOps_sound (K := Q .normal) (fun a w hn => ⟨.normal, trivial, hn⟩) ops.toList l s e a hl h g hd ht)
    · subst hc; exact h.elim
  | seq x y ihx ihy =>
    intro inR r ac Q s e e0 H0 a hc hr h g hd ht
    simp only [ccode] at hc
    split at hc
    · rename_i ax ay hx hy
      cases hc
      simp only [awp] at h
      refine wpIn_seq (wpIn_mono (ihx inR r ax _ s e e0 H0 a hx hr h g hd ht) ?_)
      rintro x' a' w' ⟨y', hxy, e', s', hw, hq, g', hd', ht'⟩
      cases y' <;> cases x' <;> simp only [ExitRel] at hxy
      · subst hw; exact ihy inR r ay Q s' e' e0 H0 a' hy hr hq g' hd' ht'
      · subst hxy; exact ⟨.exit _, rfl, e', s', hw, hq, g', hd', ht'⟩
      · exact ⟨.ret, trivial, e', s', hw, hq, g', hd', ht'⟩
    · cases hc
  | cond c x y ihx ihy =>
    intro inR r ac Q s e e0 H0 a hc hr h g hd ht
    simp only [ccode] at hc
    split at hc
    · rename_i ax ay hx hy
      cases hc
      simp only [awp] at h
      split at h
      · rename_i t hct
        have hv := g.ev c
        rw [hct] at hv
        generalize hgc : a.eval c = cv at hv
        cases hv
        cases t
        · exact wpIn_cond_false hgc (ihy inR r ay Q s e e0 H0 a hy hr (h.2 rfl) g hd ht)
        · exact wpIn_cond_true hgc (ihx inR r ax Q s e e0 H0 a hx hr (h.1 rfl) g hd ht)
      · exact h.elim
    · cases hc
  | block id x ih =>
    intro inR r ac Q s e e0 H0 a hc hr h g hd ht
    simp only [ccode, Option.map_eq_some_iff] at hc
    obtain ⟨ax, hx, rfl⟩ := hc
    simp only [awp] at h
    refine wpIn_block (wpIn_mono (ih inR r ax _ s e e0 H0 a hx hr h g hd ht) ?_)
    rintro x' a' w' ⟨y', hxy, e', s', hw, hq, g', hd', ht'⟩
    cases y' <;> cases x' <;> simp only [ExitRel] at hxy
    · exact ⟨.normal, trivial, e', s', hw, hq, g', hd', ht'⟩
    · rename_i i j
      subst hxy
      simp only [Exit.inBlock]
      split
      · rename_i hid
        simp only [hid, if_true] at hq
        exact ⟨.normal, trivial, e', s', hw, hq, g', hd', ht'⟩
      · rename_i hid
        simp only [if_neg hid] at hq
        exact ⟨.exit _, rfl, e', s', hw, hq, g', hd', ht'⟩
    · exact ⟨.ret, trivial, e', s', hw, hq, g', hd', ht'⟩
  | loop x ih =>
    intro inR r ac Q s e e0 H0 a hc hr h g hd ht
    simp only [ccode, Option.map_eq_some_iff] at hc
    obtain ⟨ax, hx, rfl⟩ := hc
    simp only [awp] at h
    obtain ⟨J, m0, hJ, hround⟩ := h
    refine wpIn_loop_ghost (fun m a' w' => ∃ e' s', e'.w = w' ∧ J m s' ∧ Gam e' n s' a' ∧ Marks e0 e' s'.H a'.defers ∧ Tr e0 H0 e' s'.H) m0 ⟨e, s, rfl, hJ, g, hd, ht⟩ ?_
    rintro m a' w' ⟨e', s', rfl, hJ', g', hd', ht'⟩
    refine wpIn_mono (ih inR r ax _ s' e' e0 H0 a' hx hr (hround m s' hJ') g' hd' ht') ?_
    rintro x' a2 w2 ⟨y', hxy, e2, s2, hw, hq, g2, hd2, ht2⟩
    cases y' <;> cases x' <;> simp only [ExitRel] at hxy
    · obtain ⟨k, hk, hJk⟩ := hq
      exact ⟨k, hk, e2, s2, hw, hJk, g2, hd2, ht2⟩
    · subst hxy; exact ⟨.exit _, rfl, e2, s2, hw, hq, g2, hd2, ht2⟩
    · exact ⟨.ret, trivial, e2, s2, hw, hq, g2, hd2, ht2⟩
  | exit id => intro inR r ac Q s e e0 H0 a hc hr h g hd ht; cases hc; exact wpIn_exit ⟨.exit id, rfl, e, s, rfl, h, g, hd, ht⟩
  | ret => intro inR r ac Q s e e0 H0 a hc hr h g hd ht; cases hc; exact wpIn_ret ⟨.ret, trivial, e, s, rfl, h, g, hd, ht⟩
  | rangeFunc fx params asg body ih1 ih2 =>
    intro inR r ac Q s e e0 H0 a hc hr h g hd ht
    simp only [ccode] at hc
    split at hc
    · rename_i ax ay hx hy
      split at hc
      · rename_i hps
        obtain ⟨hin, hps⟩ := hps
        have hrn := hr hin
        subst hrn
        have hpn : ∀ t ∈ params.toList, t < n := fun t ht => by simpa using List.all_eq_true.1 hps t ht
        cases hc
        simp only [awp] at h
        split at h
        · rename_i f capt hf
          have hv := g.ev fx
          rw [hf] at hv
          generalize hgx : a.eval fx = xv at hv
          cases hv with
          | fn hfs hcs h1 h2 =>
            rename_i fs cs
            have hfs0 : fs = [] := List.eq_nil_of_length_eq_zero hfs
            subst hfs0
            refine wpIn_rangeFunc fun fn _ => ?_
            obtain ⟨rc, hst, hpe, htm, hpa, has, hbo, hfn, hde⟩ : ∃ rc : Loop, rc.state = .ready ∧ rc.pending = none ∧ rc.tmps = a.tmps ∧ rc.params = params ∧ rc.assign = asg ∧ rc.body = body ∧ rc.fn = fn ∧ rc.defers = e.w.heap.size :=
              ⟨{ state := .ready, pending := none, fn := fn, tmps := a.tmps, params := params, assign := asg, body := body, defers := e.w.heap.size }, rfl, rfl, rfl, rfl, rfl, rfl, rfl, rfl⟩
            have hrc : rc = { state := .ready, pending := none, fn := fn, tmps := a.tmps, params := params, assign := asg, body := body, defers := e.w.heap.size } := by
              cases rc; simp_all
            have hready : ({ rc with state := .ready, pending := none } : Loop) = rc := by cases rc; simp_all
            have htmA : ∀ {e' : Env}, Ext e e' → ∀ t : Nat, Rep e' (s.A t) (rc.tmps.getD t undef) := fun x t => by rw [htm]; exact (g.tm t).ext x
            -- one round
            have hround : ∀ (args : List AV) (H : AHeap) (N : Nat) (Q1 : AV → AHeap → Nat → Prop), H s.N = some (.loop rc s.A) → args.length = params.toList.length →
                awp P ax (fun x s1 => x = .normal ∧ s1.H s.N = some (.loop rc s.A) ∧ awp P ay (fun x s2 => s2.H s.N = some (.loop { rc with state := .busy } s.A) ∧ (match x with
                  | .normal => Q1 (.lit (.bool true)) (s2.H.set s.N (.loop rc s.A)) s2.N
                  | x => Q1 (.lit (.bool false)) (s2.H.set s.N (.loop { rc with state := .done, pending := some (jumpOf x) } s.A)) s2.N)) { s1 with H := s1.H.set s.N (.loop { rc with state := .busy } s.A) }) ⟨putL s.A params.toList args, H, N⟩ →
                YCall P s.N args H N Q1 := by
              intro args H N Q1 ho hlen hw e3 vs hH3 hN3 hvl hvr
              obtain ⟨hid3, _, hl3, htm3⟩ := hH3.at_ s.N _ ho
              refine ⟨rc.fn, _, rc.assign, rc.body, run_yield hl3 (by rw [hpa]; simp [hvl, hlen]), ?_⟩
              have hfold : (rc.params.zip vs.toArray).foldl (fun tmps (x : Tmp × Value) => tmps.setIfInBounds x.1 x.2) rc.tmps = (params.toList.zip vs).foldl (fun t (x : Nat × Value) => t.setIfInBounds x.1 x.2) rc.tmps := by
                rw [hpa, ← Array.foldl_toList, Array.toList_zip]
              obtain ⟨k1, k2⟩ := putL_rep (n := n) (e := e3) params.toList args vs s.A rc.tmps hlen (by rw [hvl, hlen]) hpn (by rw [htm]; exact g.size) htm3 hvr
              have key := ih1 true (some (e3.ρ s.N).1) ax _ ⟨putL s.A params.toList args, H, N⟩ e3 e3 H { tmps := (params.toList.zip vs).foldl (fun t (x : Nat × Value) => t.setIfInBounds x.1 x.2) rc.tmps, defers := [] } hx (fun h => by cases h) hw ⟨hN3, hH3, k1, k2⟩ (Marks.nil _ _ _) (.refl _ _)
              refine roundIn_of_wpIn (F := Fence.wide) trivial ?_
              rw [has, hfold]
              refine wpIn_mono (show asg.wpIn (Fence.wide.inRound (e3.ρ s.N).1) 0 P _ _ _ from key) ?_
              rintro x' a1 w1 ⟨y, hxy, e4, s1, rfl, hq1, g1, hd1, ht1⟩
              obtain ⟨rfl, ho1, hw2⟩ := hq1
              cases x' <;> simp only [ExitRel] at hxy
              simp only [Exit.then]
              have hρ4 : e4.ρ s.N = e3.ρ s.N := ht1.ext.ρ _ hid3
              obtain ⟨hid4, _, hl4, htm4⟩ := g1.H.at_ s.N _ ho1
              rw [← hρ4]
              refine ⟨_, run_beginRound hl4 hst, ?_⟩
              have hx5 : Ext e4 (e4.putO (e4.ρ s.N).1 (.loop { rc with state := .busy })) := ext_putO hl4 rfl (g1.H.at_ s.N _ ho1).2.1
              have hH5 := hrep_putO g1.H ho1 hl4 (o' := .loop { rc with state := .busy }) (ob' := .loop { rc with state := .busy } s.A) rfl ⟨World.putObj_heap_same (lt_of_heap hl4), fun t => (htm4 t).ext hx5⟩
              have t5 := tr_putO g1.H (.loop { rc with state := .busy } s.A) ho1 hl4 (o' := .loop { rc with state := .busy }) rfl
              have key2 := ih2 true (some (e4.ρ s.N).1) ay _ { s1 with H := s1.H.set s.N (.loop { rc with state := .busy } s.A) } (e4.putO (e4.ρ s.N).1 (.loop { rc with state := .busy })) e3 H a1 hy (fun h => by cases h) hw2
                ⟨g1.N, hH5, g1.size, fun t => (g1.tm t).ext hx5⟩ (hd1.tr t5) (ht1.trans t5)
              rw [← hbo] at key2
              refine wpIn_mono (show rc.body.wpIn (Fence.wide.inRound (e4.ρ s.N).1) 0 P _ _ _ from key2) ?_
              rintro x2 a2 w2 ⟨y2, hxy2, e6, s2, rfl, ⟨hob2, hq2⟩, g2, hd2, ht2⟩
              have hρ6 : e6.ρ s.N = e4.ρ s.N := (ht2.ext.ρ _ hid3).trans hρ4.symm
              obtain ⟨hid6, hI6, hl6, htm6⟩ := g2.H.at_ s.N _ hob2
              have fin : ∀ (jump : Option Code) (b : Bool) (rz : Loop), b = jump.isNone → ({ rc with state := if jump.isNone then .ready else .done, pending := jump } : Loop) = rz → Q1 (.lit (.bool b)) (s2.H.set s.N (.loop rz s.A)) s2.N →
                  ∃ v w', (Instr.endRound (e4.ρ s.N).1 jump).run P e6.w = .ok v w' ∧ ∃ v' e' r H', Ending.returned v = .returned v' ∧ e'.w = w' ∧ Q1 r H' e'.N ∧ Rep e' r v' ∧ HRep e' H' ∧ Tr e3 H e' H' := by
                intro jump b rz hb hrz hq
                have hx7 : Ext e6 (e6.putO (e6.ρ s.N).1 (.loop rz)) := ext_putO hl6 rfl hI6
                have htz : rz.tmps = rc.tmps := by rw [← hrz]
                have hH7 := hrep_putO g2.H hob2 hl6 (o' := .loop rz) (ob' := .loop rz s.A) rfl ⟨World.putObj_heap_same (lt_of_heap hl6), fun t => by rw [htz]; exact (htm6 t).ext hx7⟩
                have t7 := tr_putO g2.H (.loop rz s.A) hob2 hl6 (o' := .loop rz) rfl
                have hrun := run_endRound (P := P) jump hl6
                rw [show ({ ({ rc with state := .busy } : Loop) with state := if jump.isNone then .ready else .done, pending := jump } : Loop) = rz from hrz] at hrun
                rw [← hρ6]
                exact ⟨_, _, hrun, .bool b, e6.putO (e6.ρ s.N).1 (.loop rz), .lit (.bool b), _, by rw [hb], rfl, by rw [g2.N.symm] at hq; exact hq, .lit _, hH7, ht2.trans t7⟩
              cases y2 <;> cases x2 <;> simp only [ExitRel] at hxy2
              · exact fin none true rc rfl hready hq2
              · rename_i i j
                subst hxy2
                exact fin (some (.exit i)) false _ rfl rfl hq2
              · exact fin (some .ret) false _ rfl rfl hq2
            -- the loop's own blocks
            have hHD : HRep (e.allocU (.deferred (some []))) s.H := hrep_allocU g.H _
            have tD : Tr e s.H (e.allocU (.deferred (some []))) s.H := tr_allocU g.H _
            generalize heD : e.allocU (.deferred (some [])) = eD at hHD tD
            have hsz : eD.w.heap.size = e.w.heap.size + 1 := by rw [← heD]; exact size_alloc _ _
            have hND : eD.N = s.N := by rw [← heD]; exact g.N
            have hDk : eD.w.heap[e.w.heap.size]? = some (.deferred (some [])) := by rw [← heD]; exact World.alloc_heap_new _ _
            have hmD : Marks e0 eD s.H (mark e.w.heap.size :: a.defers) := by
              obtain ⟨Ds, m1, m2, m3⟩ := hd.tr tD
              have hold : ∀ D ∈ Ds, D < e.w.heap.size := fun D hD => by
                obtain ⟨Ds', m1', _, m3'⟩ := hd
                have : Ds = Ds' := by
                  have hinj : ∀ (l r : List Nat), l.map mark = r.map mark → l = r := fun l r h => List.map_inj_right (f := mark) (fun x y hxy => by simpa [mark] using hxy) |>.1 h
                  exact hinj _ _ (m1.symm.trans m1')
                subst this
                exact lt_of_heap (m3' D hD).1
              refine ⟨e.w.heap.size :: Ds, by rw [List.map_cons, m1], List.nodup_cons.2 ⟨fun hm => Nat.lt_irrefl _ (hold _ hm), m2⟩, fun D hD => ?_⟩
              rcases List.mem_cons.1 hD with rfl | hD
              · refine ⟨hDk, fun hI => ?_, fun hO => ?_, ht.size⟩
                · rw [← heD] at hI
                  exact Nat.lt_irrefl _ (g.H.imm _ hI)
                · rw [← heD] at hO
                  exact Nat.lt_irrefl _ (g.H.own_lt hO)
              · exact m3 D hD
            have x1 : Ext eD (eD.allocO (.loop rc)) := ext_allocO eD _ hHD.imm
            have hH1 : HRep (eD.allocO (.loop rc)) (s.H.set eD.N (.loop rc s.A)) := hrep_allocO hHD _ ⟨World.alloc_heap_new _ _, htmA (tD.ext.trans x1)⟩
            have t1 : Tr eD s.H (eD.allocO (.loop rc)) (s.H.set eD.N (.loop rc s.A)) := tr_allocO hHD _ _
            have hρ1 : (eD.allocO (.loop rc)).ρ s.N = (e.w.heap.size + 1, 0) := by simp [Env.allocO, hND, hsz]
            have hN1 : (eD.allocO (.loop rc)).N = s.N + 1 := by show eD.N + 1 = _; rw [hND]
            rw [hND] at hH1 t1
            have hA := h (.loop rc s.A) (.loop { rc with state := .busy } s.A) (fun x => .loop { rc with state := .done, pending := some (jumpOf x) } s.A) hround
            have hcall := hA.2 (eD.allocO (.loop rc)) (.func (.yield (e.w.heap.size + 1)) #[] #[] :: cs) hH1 hN1 (by simp [hcs]) (fun i c v hc hv => by
              cases i with
              | zero =>
                simp at hc hv
                subst hc; subst hv
                have := Rep.yl (e := eD.allocO (.loop rc)) (id := s.N) (by rw [hN1]; exact Nat.lt_succ_self _)
                rw [hρ1] at this
                exact this
              | succ i => exact (h2 i c v (by simpa using hc) (by simpa using hv)).ext (tD.ext.trans x1))
            refine ⟨e.w.heap.size + 1, [mark e.w.heap.size], (eD.allocO (.loop rc)).w, { target := .fn (.func f) cs.toArray, args := #[.func (.yield (e.w.heap.size + 1)) #[] #[]] }, (eD.allocO (.loop rc)).w, f,
              #[.func (.yield (e.w.heap.size + 1)) #[] #[]] ++ cs.toArray, (eD.allocO (.loop rc)).w, ?_, ?_, fun _ _ => trivial, ?_, fun h => (by cases h), ?_⟩
            · have := run_enterLoop_outer (P := P) (w := e.w) fn a.tmps params asg body
              rw [← hrc] at this
              rw [← heD]
              exact this
            · simp only [resolve, hgx]
              simp [go_sem]
            · simp only [invoke]
              exact goodFn_run hA.1 _ _
            · have harr : (#[.func (.yield (e.w.heap.size + 1)) #[] #[]] ++ cs.toArray : Array Value) = (.func (.yield (e.w.heap.size + 1)) #[] #[] :: cs).toArray := by simp
              rw [harr]
              have key : CallsIn (FnR none) (0 - 1) P f (.func (.yield (e.w.heap.size + 1)) #[] #[] :: cs).toArray (eD.allocO (.loop rc)).w _ := callsIn_wide (n := 0).2 hcall
              refine key.mono ?_
              rintro x w' ⟨v, e', r', H', rfl, rfl, hq, hr', hH', htr⟩
              have hρ' : e'.ρ s.N = (e.w.heap.size + 1, 0) := by rw [htr.ext.ρ s.N (by rw [hN1]; exact Nat.lt_succ_self _)]; exact hρ1
              -- behind the loop
              have behind : ∀ (rz : Loop) (y : AExit), H' s.N = some (.loop rz s.A) → Q y ⟨s.A, H'.del s.N, e'.N⟩ →
                  Nx n e0 H0 (Q y) { a with defers := [mark e.w.heap.size] ++ a.defers } (e'.w.putObj (e.w.heap.size + 1) (.loop { rz with state := .exhausted })) := by
                intro rz y hz hqy
                obtain ⟨hid, hI, hl, htm'⟩ := hH'.at_ s.N _ hz
                have hx2 : Ext e' (e'.putO (e'.ρ s.N).1 (.loop { rz with state := .exhausted })) := ext_putO hl rfl hI
                have hH2 := hrep_putO hH' hz hl (o' := .loop { rz with state := .exhausted }) (ob' := .loop { rz with state := .exhausted } s.A) rfl ⟨World.putObj_heap_same (lt_of_heap hl), fun t => (htm' t).ext hx2⟩
                have t2 := tr_del (tr_putO hH' (.loop { rz with state := .exhausted } s.A) hz hl (o' := .loop { rz with state := .exhausted }) rfl) s.N
                have hH3 := hrep_del hH2 s.N
                rw [set_del] at hH3 t2
                refine ⟨e'.putO (e'.ρ s.N).1 (.loop { rz with state := .exhausted }), ⟨s.A, H'.del s.N, e'.N⟩, ?_, hqy, ⟨rfl, hH3, g.size, fun t => ?_⟩, ((hmD.tr t1).tr htr).tr t2, ((ht.trans tD).trans t1).trans (htr.trans t2)⟩
                · rw [hρ']; rfl
                · exact (g.tm t).ext (tD.ext.trans (x1.trans (htr.ext.trans hx2)))
              rcases hq with ⟨hz, hqy⟩ | ⟨y, hy, hz, hqy⟩
              · obtain ⟨_, _, hl, _⟩ := hH'.at_ s.N _ hz
                rw [hρ'] at hl
                have hend := run_endLoop (P := P) hl (by rw [hst]; simp)
                have hb := behind rc .normal hz hqy
                rw [hpe] at hend hb
                exact ⟨none, _, hend, .normal, trivial, hb⟩
              · obtain ⟨_, _, hl, _⟩ := hH'.at_ s.N _ hz
                rw [hρ'] at hl
                have hend := run_endLoop (P := P) hl (by simp)
                refine ⟨_, _, hend, ?_⟩
                have hb := behind _ y hz hqy
                cases y with
                | normal => exact absurd rfl hy
                | exit i => exact wpIn_exit ⟨.exit i, rfl, hb⟩
                | ret => exact wpIn_ret ⟨.ret, trivial, hb⟩
        · exact h.elim
      · cases hc; exact h.elim
    · cases hc
  | scope b => intro inR r ac Q s e e0 H0 a hc hr h; cases hc; exact h.elim
  | label l => intro inR r ac Q s e e0 H0 a hc hr h; cases hc; exact h.elim
  | goto l => intro inR r ac Q s e e0 H0 a hc hr h; cases hc; exact h.elim
  | refuse w => intro inR r ac Q s e e0 H0 a hc hr h; cases hc; exact h.elim


/-- Where a function's results lie. -/
inductive RV where
  | tmp (t : Nat)
  | cell (t sz : Nat) (ag : Bool)
  deriving Inhabited

def resTmps (P : Program) : List ResultVar → Option (List RV)
  | [] => some []
  | .tmp t :: r => (resTmps P r).map (.tmp t :: ·)
  | .cell a t :: r => match szOf P t, P.underlying t with
    | some sz, some _ => (resTmps P r).map (.cell a sz (isAggB P t) :: ·)
    | _, _ => none

def RV.get (s : St) : RV → Option AV
  | .tmp t => some (s.A t)
  | .cell t sz ag => aload s.H ag sz (s.A t)

/-- What a function answers. -/
def ares (l : List RV) (s : St) (Q : AV → Prop) : Prop :=
  match l with
  | [r] => match r.get s with
    | some v => Q v
    | none => False
  | l => match l.mapM (RV.get s) with
    | some vs => Q (.tup vs)
    | none => False

/-- One result, read. -/
def resRun (tmps : Array Value) : ResultVar → Sem Value
  | .tmp t => pure (tmps.getD t undef)
  | .cell a t => do loadVar t (← asAddr (tmps.getD a undef))

theorem resRun_run {e : Env} {H : AHeap} (hH : HRep e H) {A : Nat → AV} {N : Nat} {tmps : Array Value} (hA : ∀ t : Nat, Rep e (A t) (tmps.getD t undef)) {rv : ResultVar} {r : RV} (h : resTmps P [rv] = some [r]) {x : AV}
    (hx : r.get ⟨A, H, N⟩ = some x) : ∃ u, (resRun tmps rv).run P e.w = .ok u e.w ∧ Rep e x u := by
  cases rv with
  | tmp t =>
    simp [resTmps] at h
    subst h
    simp only [RV.get, Option.some.injEq] at hx
    subst hx
    exact ⟨_, rfl, hA t⟩
  | cell a t =>
    simp only [resTmps] at h
    split at h
    · rename_i sz d hsz hd
      simp at h
      subst h
      simp only [RV.get] at hx
      obtain ⟨u, h1, h2⟩ := aload_run hH hd hsz hx (hA a)
      refine ⟨u, ?_, h2⟩
      have hp : ∃ ad, tmps.getD a undef = .pointer (some ad) := by
        have hr := hA a
        generalize tmps.getD a undef = v at hr ⊢
        unfold aload at hx
        split at hx
        · rename_i cs off ha; simp only [ha] at hr; cases hr; exact ⟨_, rfl⟩
        · rename_i id off ha; simp only [ha] at hr; cases hr; exact ⟨_, rfl⟩
        · cases hx
      obtain ⟨ad, had⟩ := hp
      rw [had] at h1
      simp only [resRun, had, asAddr, Sem.run_bind, Sem.run_pure, Result.andThen_ok]
      simpa [Instr.loadAt, Instr.sureAddr] using h1
    · cases h

theorem resTmps_cons {rv : ResultVar} {rs : List ResultVar} {l : List RV} (h : resTmps P (rv :: rs) = some l) : ∃ r l', l = r :: l' ∧ resTmps P [rv] = some [r] ∧ resTmps P rs = some l' := by
  cases rv with
  | tmp t =>
    simp only [resTmps, Option.map_eq_some_iff] at h
    obtain ⟨l', h1, rfl⟩ := h
    exact ⟨_, l', rfl, by simp [resTmps], h1⟩
  | cell a t =>
    simp only [resTmps] at h
    split at h
    · rename_i sz d hsz hd
      simp only [Option.map_eq_some_iff] at h
      obtain ⟨l', h1, rfl⟩ := h
      exact ⟨_, l', rfl, by simp [resTmps, hsz, hd], h1⟩
    · cases h

theorem results_eq (fn : Func) (tmps : Array Value) : results fn tmps = (do
    let vs ← fn.results.mapM (resRun tmps)
    pure (if h : vs.size = 1 then vs[0] else .tuple vs)) := by
  unfold results
  congr 1

/-- All results, read. -/
theorem results_run {fn : Func} {l : List RV} (hl : resTmps P fn.results.toList = some l) (hl3 : l.length ≤ 3) {e : Env} {H : AHeap} (hH : HRep e H) {A : Nat → AV} {N : Nat} {tmps : Array Value} (hA : ∀ t : Nat, Rep e (A t) (tmps.getD t undef))
    {Q : AV → Prop} (hq : ares l ⟨A, H, N⟩ Q) : ∃ v x, (results fn tmps).run P e.w = .ok v e.w ∧ Rep e x v ∧ Q x := by
  rw [results_eq]
  have hfr : fn.results = fn.results.toList.toArray := by simp
  rw [hfr]
  generalize fn.results.toList = rs at hl
  match rs, hl with
  | [], hl =>
    simp [resTmps] at hl
    subst hl
    simp only [ares, List.mapM_nil] at hq
    exact ⟨.tuple #[], _, by simp, .tup (vs := []) rfl (fun i c v hc => by simp at hc), hq⟩
  | [r0], hl =>
    obtain ⟨q0, l1, rfl, h0, hl⟩ := resTmps_cons hl
    simp [resTmps] at hl
    subst hl
    simp only [ares] at hq
    cases hg : q0.get ⟨A, H, N⟩ with
    | none => rw [hg] at hq; exact hq.elim
    | some x0 =>
      rw [hg] at hq
      obtain ⟨u0, k0, p0⟩ := resRun_run hH hA h0 hg
      exact ⟨u0, x0, by simp [k0], p0, hq⟩
  | [r0, r1], hl =>
    obtain ⟨q0, l1, rfl, h0, hl⟩ := resTmps_cons hl
    obtain ⟨q1, l2, rfl, h1, hl⟩ := resTmps_cons hl
    simp [resTmps] at hl
    subst hl
    simp only [ares, List.mapM_cons, List.mapM_nil] at hq
    cases hg0 : q0.get ⟨A, H, N⟩ with
    | none => rw [hg0] at hq; exact hq.elim
    | some x0 =>
    cases hg1 : q1.get ⟨A, H, N⟩ with
    | none => rw [hg0, hg1] at hq; exact hq.elim
    | some x1 =>
      rw [hg0, hg1] at hq
      obtain ⟨u0, k0, p0⟩ := resRun_run hH hA h0 hg0
      obtain ⟨u1, k1, p1⟩ := resRun_run hH hA h1 hg1
      refine ⟨.tuple [u0, u1].toArray, .tup [x0, x1], by simp [k0, k1], .tup rfl (fun i c v hc hv => ?_), hq⟩
      match i with
      | 0 => simp at hc hv; subst hc; subst hv; exact p0
      | 1 => simp at hc hv; subst hc; subst hv; exact p1
      | i + 2 => simp at hc
  | [r0, r1, r2], hl =>
    obtain ⟨q0, l1, rfl, h0, hl⟩ := resTmps_cons hl
    obtain ⟨q1, l2, rfl, h1, hl⟩ := resTmps_cons hl
    obtain ⟨q2, l3, rfl, h2, hl⟩ := resTmps_cons hl
    simp [resTmps] at hl
    subst hl
    simp only [ares, List.mapM_cons, List.mapM_nil] at hq
    cases hg0 : q0.get ⟨A, H, N⟩ with
    | none => rw [hg0] at hq; exact hq.elim
    | some x0 =>
    cases hg1 : q1.get ⟨A, H, N⟩ with
    | none => rw [hg0, hg1] at hq; exact hq.elim
    | some x1 =>
    cases hg2 : q2.get ⟨A, H, N⟩ with
    | none => rw [hg0, hg1, hg2] at hq; exact hq.elim
    | some x2 =>
      rw [hg0, hg1, hg2] at hq
      obtain ⟨u0, k0, p0⟩ := resRun_run hH hA h0 hg0
      obtain ⟨u1, k1, p1⟩ := resRun_run hH hA h1 hg1
      obtain ⟨u2, k2, p2⟩ := resRun_run hH hA h2 hg2
      refine ⟨.tuple [u0, u1, u2].toArray, .tup [x0, x1, x2], by simp [k0, k1, k2], .tup rfl (fun i c v hc hv => ?_), hq⟩
      match i with
      | 0 => simp at hc hv; subst hc; subst hv; exact p0
      | 1 => simp at hc hv; subst hc; subst hv; exact p1
      | 2 => simp at hc hv; subst hc; subst hv; exact p2
      | i + 3 => simp at hc
  | r0 :: r1 :: r2 :: r3 :: rs, hl =>
    obtain ⟨q0, l1, rfl, _, hl⟩ := resTmps_cons hl
    obtain ⟨q1, l2, rfl, _, hl⟩ := resTmps_cons hl
    obtain ⟨q2, l3, rfl, _, hl⟩ := resTmps_cons hl
    obtain ⟨q3, l4, rfl, _, hl⟩ := resTmps_cons hl
    simp at hl3

/-- The state in which a function begins. -/
def St0 (args : List AV) (H : AHeap) (N : Nat) : St := { A := fun t => args.getD t (.lit undef), H := H, N := N }

theorem gam0 {e : Env} {args : List AV} {vs : List Value} {H : AHeap} {N nt : Nat} (hH : HRep e H) (hN : e.N = N) (hl : vs.length = args.length) (hle : args.length ≤ nt)
    (hr : ∀ (i : Nat) (c : AV) (v : Value), args[i]? = some c → vs[i]? = some v → Rep e c v) :
    Gam e nt (St0 args H N) { tmps := vs.toArray ++ Array.replicate (nt - vs.toArray.size) undef, defers := [] } := by
  refine ⟨hN, hH, by simp; omega, fun t => ?_⟩
  simp only [St0, Array.getD_eq_getD_getElem?, List.getD]
  by_cases ht : t < args.length
  · rw [Array.getElem?_append_left (by simp; omega)]
    have h1 : args[t]? = some args[t] := by simp [ht]
    have h2 : vs[t]? = some vs[t] := by simp [show t < vs.length by omega]
    rw [h1]
    simp only [List.getElem?_toArray, h2, Option.getD_some]
    exact hr t _ _ h1 h2
  · rw [List.getElem?_eq_none (by omega), Option.getD_none, Array.getElem?_append_right (by simp; omega)]
    rw [Array.getElem?_replicate]
    split
    · exact .lit _
    · exact .lit _

/-- The marks' blocks, shut one by one. -/
theorem marks_shut {fn : Func} {tmps : Array Value} {R : Ending → World → Prop} {e0 : Env} {H0 H : AHeap} : ∀ (Ds : List Nat) (e : Env), Ds.Nodup →
    (∀ D ∈ Ds, e.w.heap[D]? = some (.deferred (some [])) ∧ ¬ e.I D ∧ ¬ Own e H D ∧ e0.w.heap.size ≤ D) → HRep e H → Tr e0 H0 e H →
    (∀ e', Ext e e' → e'.N = e.N → HRep e' H → Tr e0 H0 e' H → ∃ v, (results fn tmps).run P e'.w = .ok v e'.w ∧ R (.returned v) e'.w) →
    LeavesInM (FnR none) 0 P fn tmps R (Ds.map mark) .returning e.w
  | [], e, _, _, hH, ht, hk => hk e (.refl e) rfl hH ht
  | D :: Ds, e, hn, hD, hH, ht, hk => by
    obtain ⟨h1, h2, h3, h4⟩ := hD D (by simp)
    have hx : Ext e (e.putO D (.deferred none)) := ext_putO h1 rfl h2
    refine ⟨by simp, .inl ⟨D, _, rfl, run_takeDeferred h1, ?_⟩⟩
    refine marks_shut Ds (e.putO D (.deferred none)) (List.nodup_cons.1 hn).2 (fun D' hD' => ?_) (hrep_putU hH h1 rfl h2 h3) ⟨ht.ext.trans hx, fun b hb ho => ?_, ht.own, ht.im, ?_, ht.os, ht.tape, ht.output⟩ (fun e' hx' hN' hH' ht' => hk e' (hx.trans hx') hN' hH' ht')
    · obtain ⟨k1, k2, k3, k4⟩ := hD D' (by simp [hD'])
      exact ⟨(World.putObj_heap_other (fun h : D' = D => (List.nodup_cons.1 hn).1 (by rw [← h]; exact hD'))).trans k1, k2, k3, k4⟩
    · exact (World.putObj_heap_other (by omega)).trans (ht.fr b hb ho)
    · show _ ≤ (e.w.putObj _ _).heap.size
      rw [World.putObj_size]
      exact ht.size

/-- A function's contract, out of what holds ahead of its body. -/
theorem acall_of (hm : P.follows .mixedOrders = true) {f : FuncId} {fn : Func} (hf : P.funcs[f]? = some fn) (hgood : goodFn P f = true) {c : Code} (hb : fn.body = some c) {An : Ann} {nt : Nat} (hnt : fn.ntmps = nt) {ac : ACode} (hc : ccode P An nt false c = some ac)
    {l : List RV} (hl : resTmps P fn.results.toList = some l) (hl3 : l.length ≤ 3) {args : List AV} (hle : args.length ≤ nt) {H : AHeap} {N : Nat} {Q : AV → AHeap → Nat → Prop}
    (h : awp P ac (fun x s => match x with | .exit _ => False | _ => ares l s (fun v => Q v s.H s.N)) (St0 args H N)) : ACall P f args H N Q := by
  refine ⟨hgood, fun e vs hH hN hlen hr => ?_⟩
  subst hnt
  have key : CallsIn (FnR none) 0 P f vs.toArray e.w (fun x w' => ∃ v e' r H', x = Ending.returned v ∧ e'.w = w' ∧ Q r H' e'.N ∧ Rep e' r v ∧ HRep e' H' ∧ Tr e H e' H') := by
    refine callsIn_of_wp_marks hf hb trivial (wpIn_mono (awp_sound hm c false none ac _ _ e e H _ hc (fun _ => rfl) h (gam0 hH hN hlen hle hr) (Marks.nil _ _ _) (.refl e H)) ?_)
    rintro x a w ⟨y, hxy, e', s', rfl, hq, g', hd', ht'⟩
    obtain ⟨Ds, m1, m2, m3⟩ := hd'
    have fin : ares l s' (fun v => Q v s'.H s'.N) → LeavesInM (FnR none) 0 P fn a.tmps (fun x w' => ∃ v e' r H', x = Ending.returned v ∧ e'.w = w' ∧ Q r H' e'.N ∧ Rep e' r v ∧ HRep e' H' ∧ Tr e H e' H') a.defers .returning e'.w := fun hq => by
      rw [m1]
      refine marks_shut Ds e' m2 m3 g'.H ht' (fun e2 hx hN2 hH2 ht2 => ?_)
      obtain ⟨v, x, h1, h2, h3⟩ := results_run (P := P) hl hl3 hH2 (A := s'.A) (N := s'.N) (tmps := a.tmps) (fun t => (g'.tm t).ext hx) (Q := fun v => Q v s'.H s'.N) hq
      exact ⟨v, h1, v, e2, x, s'.H, rfl, rfl, by rw [hN2, g'.N]; exact h3, h2, hH2, ht2⟩
    cases y <;> cases x <;> simp only [ExitRel] at hxy
    · exact fin hq
    · exact hq.elim
    · exact fin hq
  exact callsIn_wide.1 key

def noHeap : AHeap := fun _ => none


end
end Go.Fw
