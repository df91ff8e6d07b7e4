/- The framework: G5, G6, G7, G8, G9. -/
import Derived.Test.YtefejpckppabpaaGreatDoorM2
import Derived.KernelRfl
/- Framework, part 14: regions that draw their order. -/
namespace Go.Fw
set_option linter.unusedSimpArgs false
set_option linter.unusedVariables false
open Go
set_option linter.unusedSectionVars false
variable [Globals]

def AOp.axs : AOp → List AX
  | .val x => [x]
  | .pick c a b => [c, a, b]
  | .nilck x => [x]
  | .bin _ _ x y => [x, y]
  | .un _ x => [x]
  | .conv _ x => [x]
  | .extract x _ => [x]
  | .field _ _ _ x => [x]
  | .fieldAddr _ x => [x]
  | .indexAddr _ x i => [x, i]
  | .indexStr x i => [x, i]
  | .slice _ x lo hi mx => x :: (lo.toList ++ hi.toList ++ mx.toList)
  | .sliceStr x lo hi => x :: (lo.toList ++ hi.toList)
  | .len _ x => [x]
  | .mkifc _ x => [x]
  | .mkfn _ first capt => first ++ capt
  | .build _ parts => parts.map (·.2.2)
  | .bslice _ _ _ _ parts => parts.map (·.2.2)
  | .load _ _ x => [x]
  | .store _ x v => [x, v]
  | .alloc _ => []
  | .kalloc _ => []
  | .box _ v => [v]
  | .mkslice _ _ _ l c => [l, c]
  | .append _ _ _ x y => [x, y]
  | .sappend _ _ b x y => [b, x, y]
  | .kappend _ _ x y => [x, y]
  | .fappend _ _ x y => [x, y]
  | .mkmap => []
  | .lookup _ _ _ m k => [m, k]
  | .mapset _ m k v => [m, k, v]
  | .delete _ m k => [m, k]
  | .lenm x => [x]
  | .copy _ x y => [x, y]
  | .mm2 _ x y => [x, y]
  | .mm3 _ x y z => [x, y, z]
  | .bstr x => [x]
  | .iload _ _ x => [x]
  | .call f args => f :: args
  | .pcall f args => f :: args
  | .kcall f args => f :: args
  | .indexA _ _ _ x i => [x, i]
  | .indexP _ _ x i => [x, i]
  | .sliceA _ _ x lo hi => x :: (lo.toList ++ hi.toList)
  | .eqS _ _ x y => [x, y]
  | .clearS _ _ x => [x]
  | .bad => []

/-- 0: it hangs on its operands alone; 1: it reads; 2: it does more. -/
def AOp.cls : AOp → Nat
  | .load _ _ _ => 1
  | .bslice mu _ _ _ _ => if mu = true then 2 else 0
  | .lookup _ _ _ _ _ => 1
  | .lenm _ => 1
  | .bstr _ => 1
  | .store _ _ _ => 2
  | .alloc _ => 2
  | .kalloc _ => 2
  | .box fz _ => if fz = true then 0 else 2
  | .mkslice _ _ _ _ _ => 2
  | .append _ _ _ _ _ => 2
  | .sappend _ _ _ _ _ => 2
  | .kappend _ _ _ _ => 2
  | .fappend _ _ _ _ => 1
  | .mkmap => 2
  | .copy _ _ _ => 2
  | .mapset _ _ _ _ => 2
  | .delete _ _ _ => 2
  | .call _ _ => 2
  | .kcall _ _ => 2
  | .sliceA _ _ _ _ _ => 1
  | .clearS _ _ _ => 2
  | .bad => 2
  | _ => 0

/-- Does it leave all objects as they were? -/
def AOp.keeps : AOp → Bool
  | .kcall _ _ => true
  | .kappend _ _ _ _ => true
  | .kalloc _ => true
  | o => decide (o.cls ≤ 1)

theorem keeps_of_cls {o : AOp} (h : o.cls ≤ 1) : o.keeps = true := by
  cases o <;> first | exact decide_eq_true h | rfl

def AX.tmps : AX → List Nat
  | .tmp t => [t]
  | .val _ => []
  | .glob _ => []

def AOper.looks (o : AOper) : List Nat := o.op.axs.flatMap AX.tmps ++ (match o.guard with | some (t, _) => [t] | none => [])

/-- Two states that an operation cannot tell apart. -/
def Agree (s s' : St) (l : List Nat) : Prop := ∀ t ∈ l, s'.A t = s.A t

theorem ev_agree {s s' : St} {l : List AX} (h : Agree s s' (l.flatMap AX.tmps)) {x : AX} (hx : x ∈ l) : s'.ev x = s.ev x := by
  cases x with
  | tmp t => exact h t (List.mem_flatMap.2 ⟨_, hx, by simp [AX.tmps]⟩)
  | val a => rfl
  | glob g => rfl

theorem evO_agree {s s' : St} {l : List AX} (h : Agree s s' (l.flatMap AX.tmps)) {x : Option AX} (hx : ∀ y, x = some y → y ∈ l) : x.map s'.ev = x.map s.ev := by
  cases x with
  | none => rfl
  | some y => simp [ev_agree h (hx y rfl)]

theorem evs_agree {s s' : St} {l : List AX} (h : Agree s s' (l.flatMap AX.tmps)) {r : List AX} (hx : ∀ y ∈ r, y ∈ l) : r.map s'.ev = r.map s.ev :=
  List.map_congr_left fun y hy => ev_agree h (hx y hy)

theorem parts_agree {s s' : St} {l : List AX} (h : Agree s s' (l.flatMap AX.tmps)) {r : List (Nat × Nat × AX)} (hx : ∀ y ∈ r, y.2.2 ∈ l) :
    r.map (fun x => (x.1, x.2.1, s'.ev x.2.2)) = r.map (fun x => (x.1, x.2.1, s.ev x.2.2)) :=
  List.map_congr_left fun y hy => by rw [ev_agree h (hx y hy)]

/-- An operation that leaves the heap alone. -/
theorem aop_quiet {op : AOp} (hc : op.cls ≤ 1) {s : St} {v : AV} {H' : AHeap} {N' : Nat} (h : aop op s = some (v, H', N')) : H' = s.H ∧ N' = s.N := by
  cases op <;> simp only [aop, AOp.cls] at h hc <;> first
    | (simp only [Option.map_eq_some_iff, Prod.mk.injEq, Option.some.injEq] at h; (first | (obtain ⟨_, _, _, rfl, rfl⟩ := h; exact ⟨rfl, rfl⟩) | (obtain ⟨_, rfl, rfl⟩ := h; exact ⟨rfl, rfl⟩)); done)
    | (exfalso; omega)
    | (cases h; done)
    | skip
  case pick =>
    split at h
    · simp only [Option.some.injEq, Prod.mk.injEq] at h; obtain ⟨_, rfl, rfl⟩ := h; exact ⟨rfl, rfl⟩
    · cases h
  case conv =>
    split at h
    · simp only [Option.some.injEq, Prod.mk.injEq] at h; obtain ⟨_, rfl, rfl⟩ := h; exact ⟨rfl, rfl⟩
    · cases h
  case extract =>
    split at h
    · simp only [Option.map_eq_some_iff, Prod.mk.injEq] at h; obtain ⟨_, _, _, rfl, rfl⟩ := h; exact ⟨rfl, rfl⟩
    · cases h
  case field =>
    split at h
    · simp only [Option.map_eq_some_iff, Prod.mk.injEq] at h; obtain ⟨_, _, _, rfl, rfl⟩ := h; exact ⟨rfl, rfl⟩
    · cases h
  case box fz x =>
    cases fz with
    | false => simp at hc
    | true =>
      simp only [Option.map_eq_some_iff, if_true, Prod.mk.injEq] at h
      obtain ⟨_, _, _, rfl, rfl⟩ := h
      exact ⟨rfl, rfl⟩
  case lookup =>
    split at h
    · simp only [Option.map_eq_some_iff, Prod.mk.injEq] at h; obtain ⟨_, _, _, rfl, rfl⟩ := h; exact ⟨rfl, rfl⟩
    · cases h
  case bslice =>
    split at h
    · split at h
      · rename_i hm; rw [if_pos hm] at hc; omega
      · simp only [Option.some.injEq, Prod.mk.injEq] at h; obtain ⟨_, rfl, rfl⟩ := h; exact ⟨rfl, rfl⟩
    · cases h

theorem aload_keeps {H H' : AHeap} (hk : Keeps H H') {ag : Bool} {sz : Nat} {x r : AV} (h : aload H ag sz x = some r) : aload H' ag sz x = some r := by
  unfold aload at h ⊢
  split at h
  · exact h
  · split at h
    · rename_i hid
      simp only [hk _ _ hid]
      exact h
    · cases h
  · cases h

theorem asrc_keeps' {H H' : AHeap} (hk : Keeps H H') {sz : Nat} {y : AV} {r : List AV × Nat} (h : asrc H sz y = some r) : asrc H' sz y = some r := by
  unfold asrc at h ⊢
  split at h
  · exact h
  · split at h
    · rename_i hid
      simp only [hk _ _ hid]
      exact h
    · cases h
  · cases h
theorem afap_keeps {H H' : AHeap} (hk : Keeps H H') {sz b : Nat} {x y r : AV} (h : afap sz b H x y = some r) : afap sz b H' x y = some r := by
  unfold afap at h ⊢
  split at h
  · rename_i k z es
    cases hs : asrc H sz y with
    | none => simp only [aappend, hs] at h; cases h
    | some q =>
      have hs' := asrc_keeps' hk hs
      obtain ⟨news, m⟩ := q
      cases k with
      | nil =>
        cases es with
        | nil =>
          simp only [aappend, hs, hs', if_true] at h ⊢
          split at h
          · rename_i hm; rw [if_pos hm]; exact h
          · rename_i hm; rw [if_neg hm]
            split at h
            · rename_i hc; rw [if_pos hc]; exact h
            · cases h
        | cons e es => simp only [aappend, hs] at h; cases h
      | exact =>
        simp only [aappend, hs, hs', if_true] at h ⊢
        split at h
        · rename_i hm; rw [if_pos hm]; exact h
        · rename_i hm; rw [if_neg hm]
          split at h
          · rename_i hc; rw [if_pos hc]; exact h
          · cases h
      | any => simp only [aappend, hs] at h; cases h
  · cases h

theorem alookup_keeps {H H' : AHeap} (hk : Keeps H H') {z : AV} {ok : Bool} {m k r : AV} (h : alookup z ok H m k = some r) : alookup z ok H' m k = some r := by
  unfold alookup at h ⊢
  simp only [Option.map_eq_some_iff] at h ⊢
  obtain ⟨x, h1, h2⟩ := h
  refine ⟨x, ?_, h2⟩
  unfold alook at h1 ⊢
  split at h1
  · exact h1
  · split at h1
    · rename_i hid
      simp only [hk _ _ hid]
      exact h1
    · cases h1
  · cases h1

theorem asrc_keeps {H H' : AHeap} (hk : Keeps H H') {sz : Nat} {x : AV} {r : List AV × Nat} (h : asrc H sz x = some r) : asrc H' sz x = some r := by
  unfold asrc at h ⊢
  split at h
  · exact h
  · split at h
    · rename_i hh
      simp only [hk _ _ hh]
      exact h
    · cases h
  · cases h

theorem abstr_keeps {H H' : AHeap} (hk : Keeps H H') {x r : AV} (h : abstr H x = some r) : abstr H' x = some r := by
  unfold abstr at h ⊢
  obtain ⟨p, h1, h2⟩ := Option.bind_eq_some_iff.1 h
  rw [asrc_keeps hk h1]
  exact h2

theorem alenm_keeps {H H' : AHeap} (hk : Keeps H H') {x : AV} {r : Int} (h : alenm H x = some r) : alenm H' x = some r := by
  unfold alenm at h ⊢
  split at h
  · exact h
  · split at h
    · rename_i hid
      simp only [hk _ _ hid]
      exact h
    · cases h
  · cases h

theorem asliceA_keeps {H H' : AHeap} (hk : Keeps H H') {sz n : Nat} {x r : AV} {lo hi : Option AV} (h : asliceA H sz n x lo hi = some r) : asliceA H' sz n x lo hi = some r := by
  unfold asliceA at h ⊢
  split at h
  · split at h
    · rename_i hc
      rw [if_pos hc]
      split at h
      · exact h
      · split at h
        · rename_i hid
          simp only [hk _ _ hid]
          exact h
        · cases h
      · cases h
    · cases h
  · cases h

/-- What an operation that leaves the heap alone yields, elsewhere. -/
theorem aop_agree {op : AOp} {s s' : St} (hag : Agree s s' (op.axs.flatMap AX.tmps)) {v : AV} (hc : op.cls = 0 ∨ (op.cls ≤ 1 ∧ Keeps s.H s'.H))
    (h : aop op s = some (v, s.H, s.N)) : aop op s' = some (v, s'.H, s'.N) := by
  have e1 : ∀ x ∈ op.axs, s'.ev x = s.ev x := fun x hx => ev_agree hag hx
  have eO : ∀ x : Option AX, (∀ y, x = some y → y ∈ op.axs) → x.map s'.ev = x.map s.ev := fun x hx => evO_agree hag hx
  have eL : ∀ r : List AX, (∀ y ∈ r, y ∈ op.axs) → r.map s'.ev = r.map s.ev := fun x hx => evs_agree hag hx
  have eP : ∀ r : List (Nat × Nat × AX), (∀ y ∈ r, y.2.2 ∈ op.axs) → r.map (fun x => (x.1, x.2.1, s'.ev x.2.2)) = r.map (fun x => (x.1, x.2.1, s.ev x.2.2)) := fun x hx => parts_agree hag hx
  have two : ∀ (r : Option AV), r.map (fun v => (v, s.H, s.N)) = some (v, s.H, s.N) → r.map (fun v => (v, s'.H, s'.N)) = some (v, s'.H, s'.N) := fun r hr => by
    simp only [Option.map_eq_some_iff, Prod.mk.injEq] at hr ⊢
    obtain ⟨x, hx, rfl, _, _⟩ := hr
    exact ⟨x, hx, by simp⟩
  cases op <;> simp only [AOp.cls] at hc <;> simp only [aop] at h ⊢
  case val x => rw [e1 x (by simp [AOp.axs])]; simpa using h
  case pick c a b =>
    rw [e1 c (by simp [AOp.axs]), e1 a (by simp [AOp.axs]), e1 b (by simp [AOp.axs])]
    split at h <;> simp at h ⊢
    exact h
  case nilck x => rw [e1 x (by simp [AOp.axs])]; exact two _ h
  case bin op et x y => rw [e1 x (by simp [AOp.axs]), e1 y (by simp [AOp.axs])]; exact two _ h
  case un op x => rw [e1 x (by simp [AOp.axs])]; exact two _ h
  case conv k x =>
    rw [e1 x (by simp [AOp.axs])]
    split at h <;> simp at h ⊢
    exact h
  case extract x i =>
    rw [e1 x (by simp [AOp.axs])]
    split at h
    · exact two _ h
    · cases h
  case field off sz ag x =>
    rw [e1 x (by simp [AOp.axs])]
    split at h
    · exact two _ h
    · cases h
  case fieldAddr off x => rw [e1 x (by simp [AOp.axs])]; exact two _ h
  case indexAddr sz x i => rw [e1 x (by simp [AOp.axs]), e1 i (by simp [AOp.axs])]; exact two _ h
  case indexStr x i => rw [e1 x (by simp [AOp.axs]), e1 i (by simp [AOp.axs])]; exact two _ h
  case mm2 mx x i => rw [e1 x (by simp [AOp.axs]), e1 i (by simp [AOp.axs])]; exact two _ h
  case mm3 mx x y z => rw [e1 x (by simp [AOp.axs]), e1 y (by simp [AOp.axs]), e1 z (by simp [AOp.axs])]; exact two _ h
  case iload ag sz x => rw [e1 x (by simp [AOp.axs])]; exact two _ h
  case indexA ag sz len x i => rw [e1 x (by simp [AOp.axs]), e1 i (by simp [AOp.axs])]; exact two _ h
  case indexP sz len x i => rw [e1 x (by simp [AOp.axs]), e1 i (by simp [AOp.axs])]; exact two _ h
  case eqS ne l x y => rw [e1 x (by simp [AOp.axs]), e1 y (by simp [AOp.axs])]; exact two _ h
  case fappend sz n x z =>
    rcases hc with hc | ⟨_, hH⟩
    · omega
    · rw [e1 x (by simp [AOp.axs]), e1 z (by simp [AOp.axs])]
      simp only [Option.map_eq_some_iff, Prod.mk.injEq] at h ⊢
      obtain ⟨y, hy, rfl, _, _⟩ := h
      exact ⟨y, afap_keeps hH hy, by simp⟩
  case sliceA sz n x lo hi =>
    rcases hc with hc | ⟨_, hH⟩
    · omega
    · rw [e1 x (by simp [AOp.axs]), eO lo (fun y hy => by subst hy; simp [AOp.axs]), eO hi (fun y hy => by subst hy; simp [AOp.axs])]
      simp only [Option.map_eq_some_iff, Prod.mk.injEq] at h ⊢
      obtain ⟨y, hy, rfl, _, _⟩ := h
      exact ⟨y, asliceA_keeps hH hy, by simp⟩
  case slice sz x lo hi mx =>
    rw [e1 x (by simp [AOp.axs]), eO lo (fun y hy => by subst hy; simp [AOp.axs]), eO hi (fun y hy => by subst hy; simp [AOp.axs]), eO mx (fun y hy => by subst hy; simp [AOp.axs])]
    exact two _ h
  case sliceStr x lo hi =>
    rw [e1 x (by simp [AOp.axs]), eO lo (fun y hy => by subst hy; simp [AOp.axs]), eO hi (fun y hy => by subst hy; simp [AOp.axs])]
    exact two _ h
  case len k x => rw [e1 x (by simp [AOp.axs])]; exact two _ h
  case mkifc t x => rw [e1 x (by simp [AOp.axs])]; simpa using h
  case mkfn f first capt =>
    rw [eL first (fun y hy => by simp [AOp.axs, hy]), eL capt (fun y hy => by simp [AOp.axs, hy])]
    simpa using h
  case build zs parts =>
    rw [eP parts (fun y hy => by simp only [AOp.axs, List.mem_map]; exact ⟨y, hy, rfl⟩)]
    exact two _ h
  case bslice mu sz n zs parts =>
    rw [eP parts (fun y hy => by simp only [AOp.axs, List.mem_map]; exact ⟨y, hy, rfl⟩)]
    cases mu with
    | true => simp at hc
    | false =>
      split at h
      · rename_i cs hcs
        simp at h
        simp [h]
      · cases h
  case load ag sz x =>
    rcases hc with hc | ⟨_, hH⟩
    · omega
    · rw [e1 x (by simp [AOp.axs])]
      simp only [Option.map_eq_some_iff, Prod.mk.injEq] at h ⊢
      obtain ⟨y, hy, rfl, _, _⟩ := h
      exact ⟨y, aload_keeps hH hy, by simp⟩
  case box fz x =>
    rw [e1 x (by simp [AOp.axs])]
    cases fz with
    | false => simp at hc
    | true =>
      simp only [Option.map_eq_some_iff, if_true, Prod.mk.injEq] at h ⊢
      obtain ⟨cs, h1, h2, _, _⟩ := h
      exact ⟨cs, h1, h2, by simp⟩
  case lookup kd z ok m k =>
    rcases hc with hc | ⟨_, hH⟩
    · omega
    · rw [e1 m (by simp [AOp.axs]), e1 k (by simp [AOp.axs])]
      split at h
      · rename_i hak
        rw [if_pos hak]
        simp only [Option.map_eq_some_iff, Prod.mk.injEq] at h ⊢
        obtain ⟨y, hy, rfl, _, _⟩ := h
        exact ⟨y, alookup_keeps hH hy, by simp⟩
      · cases h
  case bstr x =>
    rcases hc with hc | ⟨_, hH⟩
    · omega
    · rw [e1 x (by simp [AOp.axs])]
      simp only [Option.map_eq_some_iff, Prod.mk.injEq] at h ⊢
      obtain ⟨y, hm, rfl, _, _⟩ := h
      exact ⟨y, abstr_keeps hH hm, by simp⟩
  case lenm x =>
    rcases hc with hc | ⟨_, hH⟩
    · omega
    · rw [e1 x (by simp [AOp.axs])]
      simp only [Option.map_eq_some_iff, Prod.mk.injEq] at h ⊢
      obtain ⟨y, ⟨m, hm, rfl⟩, rfl, _, _⟩ := h
      exact ⟨_, ⟨m, alenm_keeps hH hm, rfl⟩, by simp⟩
  all_goals first | (cases h; done) | (exfalso; omega)

section
variable {P : Program}

/-- What a quiet operation yields. -/
def QV (P : Program) (o : AOper) (s : St) (v : AV) : Prop :=
  match o.op with
  | .pcall f args => match s.ev f with
    | .fn (.func f) first capt => PCall P f (first ++ args.map s.ev ++ capt) v
    | _ => False
  | op => aop op s = some (v, s.H, s.N)

def QVg (P : Program) (o : AOper) (s : St) (v : AV) : Prop :=
  match o.guard with
  | none => QV P o s v
  | some g => (gate s (some g) = some true ∧ QV P o s v) ∨ (gate s (some g) = some false ∧ v = .lit undef)

theorem upd_same (s : St) (d : Option Nat) (v : AV) : s.upd d v s.H s.N = s.put d v := by cases d <;> rfl

/-- No call of any kind. -/
def AOp.plain : AOp → Bool
  | .call _ _ => false
  | .pcall _ _ => false
  | .kcall _ _ => false
  | _ => true

theorem op_cases (op : AOp) : (∃ f a, op = .call f a) ∨ (∃ f a, op = .pcall f a) ∨ (∃ f a, op = .kcall f a) ∨ op.plain = true := by
  cases op <;> first | exact .inl ⟨_, _, rfl⟩ | exact .inr (.inl ⟨_, _, rfl⟩) | exact .inr (.inr (.inl ⟨_, _, rfl⟩)) | exact .inr (.inr (.inr rfl))

theorem awpDo_call {o : AOper} {K : St → Prop} {s : St} {f : AX} {args : List AX} (h : o.op = .call f args) : awpDo P o K s = CallV P (s.ev f) (args.map s.ev) s.H s.N (fun r H' N' => K (s.upd o.dst r H' N')) := by obtain ⟨dst, op, g⟩ := o; simp only at h; subst h; rfl

theorem awpDo_pcall {o : AOper} {K : St → Prop} {s : St} {f : AX} {args : List AX} (h : o.op = .pcall f args) : awpDo P o K s = (match s.ev f with
    | .fn (.func f) first capt => ∃ r, PCall P f (first ++ args.map s.ev ++ capt) r ∧ K (s.put o.dst r)
    | _ => False) := by
  obtain ⟨dst, op, g⟩ := o; simp only at h; subst h; simp only [awpDo]
  cases s.ev f with
  | fn g a b => cases g <;> rfl
  | _ => rfl

theorem awpDo_kcall {o : AOper} {K : St → Prop} {s : St} {f : AX} {args : List AX} (h : o.op = .kcall f args) : awpDo P o K s = (match s.ev f with
    | .fn (.func f) first capt => ACall P f (first ++ args.map s.ev ++ capt) s.H s.N (fun r H' N' => Keeps s.H H' ∧ K (s.upd o.dst r H' N'))
    | _ => False) := by
  obtain ⟨dst, op, g⟩ := o; simp only at h; subst h; simp only [awpDo]
  cases s.ev f with
  | fn g a b => cases g <;> rfl
  | _ => rfl

theorem awpDo_op {o : AOper} {K : St → Prop} {s : St} (h1 : o.op.plain = true) : awpDo P o K s = (match aop o.op s with
    | some (v, H', N') => K (s.upd o.dst v H' N')
    | none => False) := by
  obtain ⟨dst, op, g⟩ := o
  unfold awpDo
  cases op <;> first | rfl | (simp [AOp.plain] at h1; done)

theorem QV_pcall {o : AOper} {s : St} {v : AV} {f : AX} {args : List AX} (h : o.op = .pcall f args) : QV P o s v = (match s.ev f with
    | .fn (.func f) first capt => PCall P f (first ++ args.map s.ev ++ capt) v
    | _ => False) := by unfold QV; rw [h]

theorem QV_op {o : AOper} {s : St} {v : AV} (h2 : o.op.plain = true) : QV P o s v = (aop o.op s = some (v, s.H, s.N)) := by
  obtain ⟨dst, op, g⟩ := o
  unfold QV
  cases op <;> first | rfl | (simp [AOp.plain] at h2; done)

theorem awpDo_quiet {o : AOper} (hc : o.op.cls ≤ 1) {K : St → Prop} {s : St} (h : awpDo P o K s) : ∃ v, QV P o s v ∧ K (s.put o.dst v) := by
  rcases op_cases o.op with ⟨f, a, hop⟩ | ⟨f, a, hop⟩ | ⟨f, a, hop⟩ | h2
  · rw [hop] at hc; simp [AOp.cls] at hc
  · rw [awpDo_pcall hop] at h
    simp only [QV_pcall hop]
    split at h
    · obtain ⟨r, h1, h2⟩ := h
      exact ⟨r, h1, h2⟩
    · exact h.elim
  · rw [hop] at hc; simp [AOp.cls] at hc
  · rw [awpDo_op h2] at h
    simp only [QV_op h2]
    split at h
    · rename_i v H' N' hop
      obtain ⟨h1, h2⟩ := aop_quiet hc hop
      subst h1; subst h2
      rw [upd_same] at h
      exact ⟨v, hop, h⟩
    · exact h.elim

theorem awpDo_of_qv {o : AOper} (hc : o.op.cls ≤ 1) {K : St → Prop} {s : St} {v : AV} (h : QV P o s v) (hk : K (s.put o.dst v)) : awpDo P o K s := by
  rcases op_cases o.op with ⟨f, a, hop⟩ | ⟨f, a, hop⟩ | ⟨f, a, hop⟩ | h2
  · rw [hop] at hc; simp [AOp.cls] at hc
  · rw [QV_pcall hop] at h
    rw [awpDo_pcall hop]
    split at h
    · exact ⟨v, h, hk⟩
    · exact h.elim
  · rw [hop] at hc; simp [AOp.cls] at hc
  · rw [QV_op h2] at h
    rw [awpDo_op h2, h]
    simp only
    rw [upd_same]
    exact hk

theorem awpOp_none {o : AOper} {K : St → Prop} {s : St} (h : o.guard = none) : awpOp P o K s = awpDo P o K s := by unfold awpOp; rw [h]
theorem awpOp_some {o : AOper} {K : St → Prop} {s : St} {g : Nat × Bool} (h : o.guard = some g) :
    awpOp P o K s = ∃ b, gate s (some g) = some b ∧ (b = true → awpDo P o K s) ∧ (b = false → K (s.put o.dst (.lit undef))) := by unfold awpOp; rw [h]
theorem QVg_none {o : AOper} {s : St} {v : AV} (h : o.guard = none) : QVg P o s v = QV P o s v := by unfold QVg; rw [h]
theorem QVg_some {o : AOper} {s : St} {v : AV} {g : Nat × Bool} (h : o.guard = some g) :
    QVg P o s v = ((gate s (some g) = some true ∧ QV P o s v) ∨ (gate s (some g) = some false ∧ v = .lit undef)) := by unfold QVg; rw [h]

theorem awpOp_quiet {o : AOper} (hc : o.op.cls ≤ 1) {K : St → Prop} {s : St} (h : awpOp P o K s) : ∃ v, QVg P o s v ∧ K (s.put o.dst v) := by
  cases hg : o.guard with
  | none => rw [awpOp_none hg] at h; simp only [QVg_none hg]; exact awpDo_quiet hc h
  | some g =>
    rw [awpOp_some hg] at h
    simp only [QVg_some hg]
    obtain ⟨b, h1, h2, h3⟩ := h
    cases b with
    | true => obtain ⟨v, h4, h5⟩ := awpDo_quiet hc (h2 rfl); exact ⟨v, .inl ⟨h1, h4⟩, h5⟩
    | false => exact ⟨_, .inr ⟨h1, rfl⟩, h3 rfl⟩

theorem awpOp_of_qvg {o : AOper} (hc : o.op.cls ≤ 1) {K : St → Prop} {s : St} {v : AV} (h : QVg P o s v) (hk : K (s.put o.dst v)) : awpOp P o K s := by
  cases hg : o.guard with
  | none => rw [QVg_none hg] at h; rw [awpOp_none hg]; exact awpDo_of_qv hc h hk
  | some g =>
    rw [QVg_some hg] at h
    rw [awpOp_some hg]
    rcases h with ⟨h1, h2⟩ | ⟨h1, rfl⟩
    · exact ⟨true, h1, fun _ => awpDo_of_qv hc h2 hk, (fun h => by cases h)⟩
    · exact ⟨false, h1, (fun h => by cases h), fun _ => hk⟩

theorem gate_agree {s s' : St} {g : Option (Nat × Bool)} (h : ∀ t w, g = some (t, w) → s'.A t = s.A t) : gate s' g = gate s g := by
  cases g with
  | none => rfl
  | some g =>
    obtain ⟨t, w⟩ := g
    unfold gate
    simp only
    rw [h t w rfl]

theorem QV.agree {o : AOper} {s s' : St} (hag : Agree s s' (o.op.axs.flatMap AX.tmps)) {v : AV} (hc : o.op.cls = 0 ∨ (o.op.cls ≤ 1 ∧ Keeps s.H s'.H)) (h : QV P o s v) : QV P o s' v := by
  rcases op_cases o.op with ⟨f, a, hop⟩ | ⟨f, a, hop⟩ | ⟨f, a, hop⟩ | h2
  · rw [hop] at hc; simp [AOp.cls] at hc
  · rw [QV_pcall hop] at h ⊢
    rw [hop] at hag
    rw [ev_agree hag (x := f) (by simp [AOp.axs]), evs_agree hag (r := a) (fun y hy => by simp [AOp.axs, hy])]
    exact h
  · rw [hop] at hc; simp [AOp.cls] at hc
  · rw [QV_op h2] at h ⊢
    exact aop_agree hag hc h

theorem QVg.agree {o : AOper} {s s' : St} (hag : Agree s s' o.looks) {v : AV} (hc : o.op.cls = 0 ∨ (o.op.cls ≤ 1 ∧ Keeps s.H s'.H)) (h : QVg P o s v) : QVg P o s' v := by
  have h1 : Agree s s' (o.op.axs.flatMap AX.tmps) := fun t ht => hag t (List.mem_append_left _ ht)
  have h2 : gate s' o.guard = gate s o.guard := gate_agree fun t w hg => hag t (List.mem_append_right _ (by rw [hg]; simp))
  cases hg : o.guard with
  | none => rw [QVg_none hg] at h ⊢; exact h.agree h1 hc
  | some g =>
    rw [hg] at h2
    rw [QVg_some hg] at h ⊢
    rw [h2]
    rcases h with ⟨h3, h4⟩ | h3
    · exact .inl ⟨h3, h4.agree h1 hc⟩
    · exact .inr h3

/-- What an append that spares a box leaves as it was. -/
def AOp.spared : AOp → Option Nat
  | .sappend _ _ (.tmp b) _ _ => some b
  | _ => none

def AOp.loads : AOp → Option Nat
  | .load _ _ (.tmp t) => some t
  | _ => none

def Spares (s : St) (H' : AHeap) (b : Nat) : Prop := ∀ id off, s.A b = .mp id off → H' id = s.H id

theorem aappend_spare {sz bytes : Nat} {H H' : AHeap} {N N' id off : Nat} {x y v : AV} (h : aappend false sz bytes H N x y = some (v, H', N')) (hs : spareOk N (.mp id off) x = true) : H' id = H id := by
  unfold aappend at h
  split at h
  · cases h
  · split at h
    · simp [spareOk] at hs
      split at h
      · cases h; rfl
      · split at h
        · simp at h
          obtain ⟨_, rfl, _⟩ := h
          simp only [AHeap.set]; rw [if_neg (by omega)]
        · cases h
    · simp [spareOk] at hs
      split at h
      · cases h; rfl
      · split at h
        · simp at h
          obtain ⟨_, rfl, _⟩ := h
          simp only [AHeap.set]; rw [if_neg (by omega)]
        · cases h
    · simp [spareOk] at hs
      split at h
      · split at h
        · cases h
          simp only [AHeap.set, AHeap.del]; rw [if_neg (by omega), if_neg hs.1]
        · cases h
      · cases h
    · cases h

theorem aappend_keep {sz bytes : Nat} {H H' : AHeap} {N N' : Nat} {x y v : AV} (h : aappend false sz bytes H N x y = some (v, H', N')) (hs : keepOk H N x = true) : Keeps H H' := by
  have fr : ∀ o, Keeps H (H.set N o) := fun o id ob hid => by
    simp only [AHeap.set]
    split
    · rename_i he; subst he
      cases x <;> simp [keepOk] at hs
      rw [hs] at hid; cases hid
    · exact hid
  unfold aappend at h
  split at h
  · cases h
  · split at h
    · split at h
      · cases h; exact fun _ _ h => h
      · split at h
        · simp at h
          obtain ⟨_, rfl, _⟩ := h
          exact fr _
        · cases h
    · split at h
      · cases h; exact fun _ _ h => h
      · split at h
        · simp at h
          obtain ⟨_, rfl, _⟩ := h
          exact fr _
        · cases h
    · simp [keepOk] at hs
    · cases h

theorem QV.spare {o : AOper} {s s' : St} {t : Nat} (ht : o.op.loads = some t) (hA : s'.A t = s.A t) (hH : Spares s s'.H t) {v : AV} (h : QV P o s v) : QV P o s' v := by
  obtain ⟨dst, op, g⟩ := o
  simp only at ht
  cases op with
  | load ag sz x =>
    cases x with
    | tmp t' =>
      simp only [AOp.loads, Option.some.injEq] at ht
      subst ht
      simp only [QV, aop, Option.map_eq_some_iff, Prod.mk.injEq, St.ev] at h ⊢
      obtain ⟨r, h1, h2, _, _⟩ := h
      refine ⟨r, ?_, by simp [h2]⟩
      rw [hA]
      cases hx : s.A t' with
      | mp id off => rw [hx] at h1; simp only [aload] at h1 ⊢; rw [hH id off hx]; exact h1
      | ip cs off => rw [hx] at h1; exact h1
      | _ => rw [hx] at h1; simp [aload] at h1
    | _ => simp [AOp.loads] at ht
  | _ => simp [AOp.loads] at ht

theorem QVg.spare {o : AOper} {s s' : St} {t : Nat} (hag : Agree s s' o.looks) (ht : o.op.loads = some t) (hH : Spares s s'.H t) {v : AV} (h : QVg P o s v) : QVg P o s' v := by
  have hA : s'.A t = s.A t := by
    refine hag t (List.mem_append_left _ ?_)
    obtain ⟨dst, op, g⟩ := o
    simp only at ht
    cases op with
    | load ag sz x =>
      cases x with
      | tmp t' => simp only [AOp.loads, Option.some.injEq] at ht; subst ht; simp [AOp.axs, AX.tmps]
      | _ => simp [AOp.loads] at ht
    | _ => simp [AOp.loads] at ht
  have h2 : gate s' o.guard = gate s o.guard := gate_agree fun t w hg => hag t (List.mem_append_right _ (by rw [hg]; simp))
  cases hg : o.guard with
  | none => rw [QVg_none hg] at h ⊢; exact h.spare ht hA hH
  | some g =>
    rw [hg] at h2
    rw [QVg_some hg] at h ⊢
    rw [h2]
    rcases h with ⟨h3, h4⟩ | h3
    · exact .inl ⟨h3, h4.spare ht hA hH⟩
    · exact .inr h3

theorem put_comm {s : St} {d d' : Option Nat} {v v' : AV} (h : ∀ x, d = some x → d' ≠ some x) : (s.put d v).put d' v' = (s.put d' v').put d v := by
  cases d with
  | none => rfl
  | some x =>
    cases d' with
    | none => rfl
    | some y =>
      have hne : y ≠ x := fun hxy => h x rfl (by rw [hxy])
      simp only [St.put]
      congr 1
      funext t
      by_cases h1 : t = y
      · subst h1; simp [hne]
      · simp [h1]

theorem agree_put {s : St} {d : Option Nat} {v : AV} {l : List Nat} (h : ∀ x, d = some x → x ∉ l) : Agree s (s.put d v) l := fun t ht => by
  cases d with
  | none => rfl
  | some x =>
    simp only [St.put]
    rw [if_neg (fun (htx : t = x) => h x rfl (htx ▸ ht))]

theorem put_HN (s : St) (d : Option Nat) (v : AV) : (s.put d v).H = s.H ∧ (s.put d v).N = s.N := by cases d <;> exact ⟨rfl, rfl⟩

theorem aop_put_some {op : AOp} {s : St} {d : Option Nat} {v : AV} (h : ∀ x, d = some x → x ∉ op.axs.flatMap AX.tmps) : aop op (s.put d v) = aop op s := by
  have hag : Agree s (s.put d v) (op.axs.flatMap AX.tmps) := agree_put h
  have e1 : ∀ x ∈ op.axs, (s.put d v).ev x = s.ev x := fun x hx => ev_agree hag hx
  have eO : ∀ x : Option AX, (∀ y, x = some y → y ∈ op.axs) → x.map (s.put d v).ev = x.map s.ev := fun x hx => evO_agree hag hx
  have eL : ∀ r : List AX, (∀ y ∈ r, y ∈ op.axs) → r.map (s.put d v).ev = r.map s.ev := fun x hx => evs_agree hag hx
  have eP : ∀ r : List (Nat × Nat × AX), (∀ y ∈ r, y.2.2 ∈ op.axs) → r.map (fun x => (x.1, x.2.1, (s.put d v).ev x.2.2)) = r.map (fun x => (x.1, x.2.1, s.ev x.2.2)) := fun x hx => parts_agree hag hx
  obtain ⟨hH, hN⟩ := put_HN s d v
  cases op <;> simp only [aop]
  case val x => rw [e1 x (by simp [AOp.axs]), hH, hN]
  case pick c a b => rw [e1 c (by simp [AOp.axs]), e1 a (by simp [AOp.axs]), e1 b (by simp [AOp.axs]), hH, hN]
  case nilck x => rw [e1 x (by simp [AOp.axs]), hH, hN]
  case bin op et x y => rw [e1 x (by simp [AOp.axs]), e1 y (by simp [AOp.axs]), hH, hN]
  case un op x => rw [e1 x (by simp [AOp.axs]), hH, hN]
  case conv k x => rw [e1 x (by simp [AOp.axs]), hH, hN]
  case extract x i => rw [e1 x (by simp [AOp.axs]), hH, hN]
  case field off sz ag x => rw [e1 x (by simp [AOp.axs]), hH, hN]
  case fieldAddr off x => rw [e1 x (by simp [AOp.axs]), hH, hN]
  case indexAddr sz x i => rw [e1 x (by simp [AOp.axs]), e1 i (by simp [AOp.axs]), hH, hN]
  case indexStr x i => rw [e1 x (by simp [AOp.axs]), e1 i (by simp [AOp.axs]), hH, hN]
  case slice sz x lo hi mx =>
    rw [e1 x (by simp [AOp.axs]), eO lo (fun y hy => by subst hy; simp [AOp.axs]), eO hi (fun y hy => by subst hy; simp [AOp.axs]), eO mx (fun y hy => by subst hy; simp [AOp.axs]), hH, hN]
  case sliceStr x lo hi => rw [e1 x (by simp [AOp.axs]), eO lo (fun y hy => by subst hy; simp [AOp.axs]), eO hi (fun y hy => by subst hy; simp [AOp.axs]), hH, hN]
  case len k x => rw [e1 x (by simp [AOp.axs]), hH, hN]
  case mkifc t x => rw [e1 x (by simp [AOp.axs]), hH, hN]
  case mkfn f first capt => rw [eL first (fun y hy => by simp [AOp.axs, hy]), eL capt (fun y hy => by simp [AOp.axs, hy]), hH, hN]
  case build zs parts => rw [eP parts (fun y hy => by simp only [AOp.axs, List.mem_map]; exact ⟨y, hy, rfl⟩), hH, hN]
  case bslice mu sz n zs parts => rw [eP parts (fun y hy => by simp only [AOp.axs, List.mem_map]; exact ⟨y, hy, rfl⟩), hH, hN]
  case load ag sz x => rw [e1 x (by simp [AOp.axs]), hH, hN]
  case store sz x y => rw [e1 x (by simp [AOp.axs]), e1 y (by simp [AOp.axs]), hH, hN]
  case alloc cs => rw [hH, hN]
  case kalloc cs => rw [hH, hN]
  case box fz x => rw [e1 x (by simp [AOp.axs]), hH, hN]
  case mkslice sz b zs l c => rw [e1 l (by simp [AOp.axs]), e1 c (by simp [AOp.axs]), hH, hN]
  case append fz sz b x y => rw [e1 x (by simp [AOp.axs]), e1 y (by simp [AOp.axs]), hH, hN]
  case sappend sz n b x y => rw [e1 b (by simp [AOp.axs]), e1 x (by simp [AOp.axs]), e1 y (by simp [AOp.axs]), hH, hN]
  case kappend sz n x y => rw [e1 x (by simp [AOp.axs]), e1 y (by simp [AOp.axs]), hH, hN]
  case fappend sz n x y => rw [e1 x (by simp [AOp.axs]), e1 y (by simp [AOp.axs]), hH, hN]
  case mkmap => rw [hH, hN]
  case lookup kd z ok m k => rw [e1 m (by simp [AOp.axs]), e1 k (by simp [AOp.axs]), hH, hN]
  case mapset kd m k v => rw [e1 m (by simp [AOp.axs]), e1 k (by simp [AOp.axs]), e1 v (by simp [AOp.axs]), hH, hN]
  case delete kd m k => rw [e1 m (by simp [AOp.axs]), e1 k (by simp [AOp.axs]), hH, hN]
  case lenm x => rw [e1 x (by simp [AOp.axs]), hH, hN]
  case copy sz x y => rw [e1 x (by simp [AOp.axs]), e1 y (by simp [AOp.axs]), hH, hN]
  case mm2 mx x y => rw [e1 x (by simp [AOp.axs]), e1 y (by simp [AOp.axs]), hH, hN]
  case iload ag sz x => rw [e1 x (by simp [AOp.axs]), hH, hN]
  case mm3 mx x y z => rw [e1 x (by simp [AOp.axs]), e1 y (by simp [AOp.axs]), e1 z (by simp [AOp.axs]), hH, hN]
  case bstr x => rw [e1 x (by simp [AOp.axs]), hH, hN]
  case indexA ag sz len x i => rw [e1 x (by simp [AOp.axs]), e1 i (by simp [AOp.axs]), hH, hN]
  case indexP sz len x i => rw [e1 x (by simp [AOp.axs]), e1 i (by simp [AOp.axs]), hH, hN]
  case sliceA sz n x lo hi => rw [e1 x (by simp [AOp.axs]), eO lo (fun y hy => by subst hy; simp [AOp.axs]), eO hi (fun y hy => by subst hy; simp [AOp.axs]), hH, hN]
  case eqS ne l x y => rw [e1 x (by simp [AOp.axs]), e1 y (by simp [AOp.axs]), hH, hN]
  case clearS sz zs x => rw [e1 x (by simp [AOp.axs]), hH, hN]

/-- A temporary that an operation does not see may be written behind it. -/
theorem awpDo_put {o : AOper} {K : St → Prop} {s : St} {d : Option Nat} {v : AV} (h1 : ∀ x, d = some x → x ∉ o.op.axs.flatMap AX.tmps) (h2 : ∀ x, d = some x → o.dst ≠ some x)
    (h : awpDo P o K (s.put d v)) : awpDo P o (fun s1 => K (s1.put d v)) s := by
  have hag : Agree s (s.put d v) (o.op.axs.flatMap AX.tmps) := agree_put h1
  obtain ⟨hH, hN⟩ := put_HN s d v
  have hupd : ∀ r H' N', (s.put d v).upd o.dst r H' N' = (s.upd o.dst r H' N').put d v := fun r H' N' => by
    unfold St.upd
    rw [← put_comm (s := { s with H := H', N := N' }) h2]
    congr 1
    cases d <;> rfl
  rcases op_cases o.op with ⟨f, a, hop⟩ | ⟨f, a, hop⟩ | ⟨f, a, hop⟩ | hn1
  · rw [awpDo_call hop] at h ⊢
    rw [hop] at hag
    rw [ev_agree hag (x := f) (by simp [AOp.axs]), evs_agree hag (r := a) (fun y hy => by simp [AOp.axs, hy])] at h
    rw [hH, hN] at h
    exact h.mono fun r H' N' hk => by rw [hupd] at hk; exact hk
  · rw [awpDo_pcall hop] at h ⊢
    rw [hop] at hag
    rw [ev_agree hag (x := f) (by simp [AOp.axs]), evs_agree hag (r := a) (fun y hy => by simp [AOp.axs, hy])] at h
    split at h
    · obtain ⟨r, h3, h4⟩ := h
      exact ⟨r, h3, by rw [put_comm h2] at h4; exact h4⟩
    · exact h.elim
  · rw [awpDo_kcall hop] at h ⊢
    rw [hop] at hag
    rw [ev_agree hag (x := f) (by simp [AOp.axs]), evs_agree hag (r := a) (fun y hy => by simp [AOp.axs, hy])] at h
    split at h
    · rw [hH, hN] at h
      exact h.mono fun r H' N' hk => by rw [hupd] at hk; exact hk
    · exact h.elim
  · rw [awpDo_op hn1] at h ⊢
    rw [aop_put_some h1] at h
    split at h
    · rw [hupd] at h
      exact h
    · exact h.elim

theorem awpOp_put {o : AOper} {K : St → Prop} {s : St} {d : Option Nat} {v : AV} (h1 : ∀ x, d = some x → x ∉ o.looks) (h2 : ∀ x, d = some x → o.dst ≠ some x)
    (h : awpOp P o K (s.put d v)) : awpOp P o (fun s1 => K (s1.put d v)) s := by
  have hax : ∀ x, d = some x → x ∉ o.op.axs.flatMap AX.tmps := fun x hx hm => h1 x hx (List.mem_append_left _ hm)
  have hgt : gate (s.put d v) o.guard = gate s o.guard := gate_agree fun t w hg => agree_put (l := o.looks) h1 t (List.mem_append_right _ (by rw [hg]; simp))
  cases hg : o.guard with
  | none => rw [awpOp_none hg] at h ⊢; exact awpDo_put hax h2 h
  | some g =>
    rw [hg] at hgt
    rw [awpOp_some hg] at h ⊢
    obtain ⟨b, h3, h4, h5⟩ := h
    rw [hgt] at h3
    refine ⟨b, h3, fun hb => awpDo_put hax h2 (h4 hb), fun hb => ?_⟩
    have := h5 hb
    rw [put_comm h2] at this
    exact this

theorem awpDo_mono {o : AOper} {K K' : St → Prop} {s : St} (hk : ∀ s, K s → K' s) (h : awpDo P o K s) : awpDo P o K' s := by
  rcases op_cases o.op with ⟨f, a, hop⟩ | ⟨f, a, hop⟩ | ⟨f, a, hop⟩ | hn1
  · rw [awpDo_call hop] at h ⊢
    exact h.mono fun r H' N' => hk _
  · rw [awpDo_pcall hop] at h ⊢
    split at h
    · obtain ⟨r, h1, h2⟩ := h; exact ⟨r, h1, hk _ h2⟩
    · exact h.elim
  · rw [awpDo_kcall hop] at h ⊢
    split at h
    · exact h.mono fun r H' N' h1 => ⟨h1.1, hk _ h1.2⟩
    · exact h.elim
  · rw [awpDo_op hn1] at h ⊢
    split at h
    · exact hk _ h
    · exact h.elim

theorem awpOp_mono {o : AOper} {K K' : St → Prop} {s : St} (hk : ∀ s, K s → K' s) (h : awpOp P o K s) : awpOp P o K' s := by
  cases hg : o.guard with
  | none => rw [awpOp_none hg] at h ⊢; exact awpDo_mono hk h
  | some g =>
    rw [awpOp_some hg] at h ⊢
    obtain ⟨b, h1, h2, h3⟩ := h
    exact ⟨b, h1, fun hb => awpDo_mono hk (h2 hb), fun hb => hk _ (h3 hb)⟩

end
end Go.Fw

/- Framework, part 15: one order of a region serves for all; code; functions. -/
namespace Go.Fw
set_option linter.unusedSimpArgs false
set_option linter.unusedVariables false
open Go
set_option linter.unusedSectionVars false
variable [Globals]

section
variable {P : Program} {n : Nat}

/-- What an operation leaves behind it, in shape. -/
def Shape (o : AOper) (s s1 : St) : Prop := (∀ t, o.dst ≠ some t → s1.A t = s.A t) ∧ (o.op.keeps = true → Keeps s.H s1.H) ∧ (∀ b, o.op.spared = some b → Spares s s1.H b)

theorem shape_put (o : AOper) (s : St) (v : AV) : Shape o s (s.put o.dst v) := by
  refine ⟨fun t ht => ?_, fun _ => by rw [(put_HN s o.dst v).1]; exact fun _ _ h => h, fun b _ id off _ => by rw [(put_HN s o.dst v).1]⟩
  cases hd : o.dst with
  | none => rfl
  | some d => simp only [St.put]; rw [if_neg (fun (h : t = d) => ht (by rw [hd, h]))]

theorem shape_upd (o : AOper) (s : St) (v : AV) (H : AHeap) (N : Nat) (h : o.op.keeps = true → Keeps s.H H) (h2 : ∀ b, o.op.spared = some b → Spares s H b) : Shape o s (s.upd o.dst v H N) := by
  have := shape_put o { s with H := H, N := N } v
  exact ⟨fun t ht => this.1 t ht, fun hc => fun id ob hid => this.2.1 hc id ob (h hc id ob hid), fun b hb id off ha => (this.2.2 b hb id off ha).trans (h2 b hb id off ha)⟩

theorem awpDo_shape {o : AOper} {K : St → Prop} {s : St} (h : awpDo P o K s) : awpDo P o (fun s1 => K s1 ∧ Shape o s s1) s := by
  rcases op_cases o.op with ⟨f, a, hop⟩ | ⟨f, a, hop⟩ | ⟨f, a, hop⟩ | hn1
  · rw [awpDo_call hop] at h ⊢
    exact h.mono fun r H' N' hk => ⟨hk, shape_upd o s r H' N' (fun hc => by rw [hop] at hc; simp [AOp.keeps, AOp.cls] at hc) (fun b hb => by rw [hop] at hb; simp [AOp.spared] at hb)⟩
  · rw [awpDo_pcall hop] at h ⊢
    split at h
    · obtain ⟨r, h1, h2⟩ := h; exact ⟨r, h1, h2, shape_put o s r⟩
    · exact h.elim
  · rw [awpDo_kcall hop] at h ⊢
    split at h
    · exact h.mono fun r H' N' hk => ⟨hk.1, hk.2, shape_upd o s r H' N' (fun _ => hk.1) (fun b hb => by rw [hop] at hb; simp [AOp.spared] at hb)⟩
    · exact h.elim
  · rw [awpDo_op hn1] at h ⊢
    split at h
    · rename_i v H' N' hop
      exact ⟨h, shape_upd o s v H' N' (fun hc => by
        have hc' : (∃ sz n x y, o.op = .kappend sz n x y) ∨ (∃ cs, o.op = .kalloc cs) ∨ o.op.cls ≤ 1 := by
          revert hn1 hc
          cases o.op <;> simp [AOp.keeps, AOp.plain]
        rcases hc' with ⟨sz, n, x, y, hk⟩ | ⟨cs, hk⟩ | hc'
        · rw [hk] at hop
          simp only [aop] at hop
          split at hop
          · rename_i hs; exact aappend_keep hop hs
          · cases hop
        · rw [hk] at hop
          simp only [aop] at hop
          split at hop
          · rename_i hs
            simp only [Option.some.injEq, Prod.mk.injEq] at hop
            obtain ⟨_, rfl, _⟩ := hop
            intro id ob hid
            simp only [AHeap.set]
            split
            · rename_i he; subst he; rw [Option.isNone_iff_eq_none] at hs; rw [hs] at hid; cases hid
            · exact hid
          · cases hop
        · rw [(aop_quiet hc' hop).1]; exact fun _ _ h => h) (fun b hb id off ha => by
        revert hop
        obtain ⟨dst, op, gd⟩ := o
        simp only at hb ⊢
        cases op with
        | sappend sz n x y z =>
          cases x with
          | tmp t =>
            simp only [AOp.spared, Option.some.injEq] at hb
            subst hb
            intro hop
            have he : s.ev (.tmp t) = .mp id off := ha
            simp only [aop] at hop
            split at hop
            · rename_i hs; rw [he] at hs; exact aappend_spare hop hs
            · cases hop
          | _ => simp [AOp.spared] at hb
        | _ => simp [AOp.spared] at hb)⟩
    · exact h.elim

theorem awpOp_shape {o : AOper} {K : St → Prop} {s : St} (h : awpOp P o K s) : awpOp P o (fun s1 => K s1 ∧ Shape o s s1) s := by
  cases hg : o.guard with
  | none => rw [awpOp_none hg] at h ⊢; exact awpDo_shape h
  | some g =>
    rw [awpOp_some hg] at h ⊢
    obtain ⟨b, h1, h2, h3⟩ := h
    exact ⟨b, h1, fun hb => awpDo_shape (h2 hb), fun hb => ⟨h3 hb, shape_put o s _⟩⟩

/-- Whatever order is picked. -/
def aAny (P : Program) (ops : Array Oper) (al : Array AOper) (K : St → Prop) : Nat → Array Bool → St → Prop
  | 0, listed, s => Region.ready .any ops listed = [] ∧ K s
  | fuel + 1, listed, s => (Region.ready .any ops listed = [] → K s) ∧
      ∀ i ∈ Region.ready .any ops listed, ∃ ao, al[i]? = some ao ∧ awpOp P ao (aAny P ops al K fuel (listed.setIfInBounds i true)) s

theorem awpOp_sound {r : Option Nat} {An : Ann} {ops : Array Oper} {o : Oper} {ao : AOper} (hco : coper P An n ops o = some ao) {K : St → Prop} {s : St} (h : awpOp P ao K s) {e e0 : Env} {H0 : AHeap} {a : Act}
    (g : Gam e n s a) (hdef : Marks e0 e s.H a.defers) (ht : Tr e0 H0 e s.H) {Q : Exit → Act → World → Prop} {K' : Act → World → Prop} (hK : ∀ a w, Nx n e0 H0 K a w → K' a w) :
    if Region.wanted o (yielded ops a.tmps) then o.wpIn (FnR r) 0 P a e.w K' Q else (∀ f, o.about P e.w a.eval = some f → (FnR r).fn f) ∧ K' (a.put o.dst undef) e.w := by
  unfold coper at hco
  split at hco
  · rename_i hdst
    have hd := dstOk_lt hdst
    have run : ∀ gd, awpDo P ⟨o.dst, copB P An o, gd⟩ K s → o.wpIn (FnR r) 0 P a e.w K' Q := fun gd hdo => Oper.wpIn_mono hK (awpDo_soundB hd hdo g hdef ht)
    split at hco
    · rename_i hgd
      cases hco
      rw [if_pos (by simp [Region.wanted, hgd])]
      exact run _ (by simpa only [awpOp_none] using h)
    · rename_i j w hgd
      split at hco
      · rename_i t htt
        cases hco
        simp only [awpOp] at h
        obtain ⟨b, h1, h2, h3⟩ := h
        rw [gate_run g hgd htt h1]
        cases b with
        | true => rw [if_pos rfl]; exact run _ (h2 rfl)
        | false =>
          rw [if_neg (by simp)]
          refine ⟨fun _ _ => trivial, hK _ _ ⟨e, _, rfl, h3 rfl, g.put hd (.lit undef), ?_, ?_⟩⟩
          · rw [(put_HN s o.dst _).1]; exact hdef.put _ _
          · rw [(put_HN s o.dst _).1]; exact ht
      · cases hco
  · cases hco

theorem aAny_sound {r : Option Nat} {An : Ann} {ops : Array Oper} {al : Array AOper} (hal : ∀ (i : Nat) (ao : AOper), al[i]? = some ao → ∃ o, ops[i]? = some o ∧ coper P An n ops o = some ao)
    {K : St → Prop} {e0 : Env} {H0 : AHeap} {Q : Exit → Act → World → Prop} (hQ : ∀ a w, Nx n e0 H0 K a w → Q .normal a w) :
    ∀ (fuel : Nat) (listed : Array Bool) (s : St) (e : Env) (a : Act), aAny P ops al K fuel listed s → Gam e n s a → Marks e0 e s.H a.defers → Tr e0 H0 e s.H → wpAnyIn (FnR r) 0 P .any ops Q fuel listed a e.w
  | 0, listed, s, e, a, h, g, hd, ht => ⟨h.1, hQ _ _ ⟨e, s, rfl, h.2, g, hd, ht⟩⟩
  | fuel + 1, listed, s, e, a, h, g, hd, ht => by
    refine ⟨fun h0 => hQ _ _ ⟨e, s, rfl, h.1 h0, g, hd, ht⟩, fun i hi => ?_⟩
    obtain ⟨ao, h1, h2⟩ := h.2 i hi
    obtain ⟨o, h3, h4⟩ := hal i ao h1
    unfold wpOpIn
    simp only [h3]
    exact awpOp_sound h4 h2 g hd ht (fun a' w' ⟨e', s', hw, hk, g', hd', ht'⟩ => by
      subst hw
      exact aAny_sound hal hQ fuel _ s' e' a' hk g' hd' ht')

/-- All on which a listed one waits is listed. -/
def Good (ops : Array Oper) (listed : Array Bool) : Prop :=
  ∀ (k : Nat) (o : Oper), listed.getD k false = true → ops[k]? = some o → ∀ e ∈ o.after, Region.binds .any e = true → listed.getD e.on false = true

/-- A table of who waits for whom, held against the edges. -/
def ancOk (ops : Array Oper) (anc : Array Nat) : Bool :=
  (List.range ops.size).all fun j => (List.range ops.size).all fun i => !((anc.getD j 0).testBit i) ||
    (match ops[j]? with
     | some o => o.after.any fun e => Region.binds .any e && decide (e.on < j) && (e.on == i || (anc.getD e.on 0).testBit i)
     | none => true)

theorem anc_spec {ops : Array Oper} {anc : Array Nat} (h : ancOk ops anc = true) {j i : Nat} {o : Oper} (hj : ops[j]? = some o) (hi : i < ops.size) (ha : (anc.getD j 0).testBit i = true) :
    ∃ e ∈ o.after, Region.binds .any e = true ∧ e.on < j ∧ (e.on = i ∨ (anc.getD e.on 0).testBit i = true) := by
  have hjs : j < ops.size := (Array.getElem?_eq_some_iff.1 hj).1
  simp only [ancOk, List.all_eq_true, List.mem_range] at h
  have h1 := h j hjs i hi
  rw [ha, hj] at h1
  simp only [Bool.not_true, Bool.false_or, Array.any_eq_true'] at h1
  obtain ⟨e, he, h2⟩ := h1
  simp only [Bool.and_eq_true, decide_eq_true_eq, Bool.or_eq_true, beq_iff_eq] at h2
  exact ⟨e, he, h2.1.1, h2.1.2, h2.2⟩

theorem anc_listed {ops : Array Oper} {anc : Array Nat} (h : ancOk ops anc = true) {listed : Array Bool} (hg : Good ops listed) {i : Nat} (hi : i < ops.size) :
    ∀ (k : Nat), k < ops.size → listed.getD k false = true → (anc.getD k 0).testBit i = true → listed.getD i false = true := by
  intro k
  induction k using Nat.strongRecOn with
  | _ k ih =>
    intro hk hl ha
    have hko : ops[k]? = some ops[k] := by simp [hk]
    obtain ⟨e, he, hb, hlt, h1⟩ := anc_spec h hko hi ha
    have h2 := hg k _ hl hko e he hb
    rcases h1 with rfl | h1
    · exact h2
    · exact ih e.on hlt (by omega) h2 h1

theorem anc_ready {ops : Array Oper} {anc : Array Nat} (h : ancOk ops anc = true) {listed : Array Bool} (hg : Good ops listed) {i j : Nat} (hi : i < ops.size) (hj : j ∈ Region.ready .any ops listed)
    (ha : (anc.getD j 0).testBit i = true) : listed.getD i false = true := by
  obtain ⟨_, o, ho, hall⟩ := mem_ready.1 hj
  obtain ⟨e, he, hb, hlt, h1⟩ := anc_spec h ho hi ha
  have h2 := hall e he hb
  rcases h1 with rfl | h1
  · exact h2
  · exact anc_listed h hg hi e.on (by have := (Array.getElem?_eq_some_iff.1 ho).1; omega) h2 h1

theorem good_set {ops : Array Oper} {listed : Array Bool} (hg : Good ops listed) {j : Nat} (hj : j ∈ Region.ready .any ops listed) : Good ops (listed.setIfInBounds j true) := by
  intro k o hk ho e he hb
  refine getD_set_true ?_
  by_cases hkj : k = j
  · subst hkj
    obtain ⟨_, o', ho', hall⟩ := mem_ready.1 hj
    rw [ho] at ho'
    cases ho'
    exact hall e he hb
  · have : listed.getD k false = true := by
      have h1 := hk
      simp only [Array.getD_eq_getD_getElem?, Array.getElem?_setIfInBounds_ne (Ne.symm hkj)] at h1 ⊢
      exact h1
    exact hg k o this ho e he hb

def apartA (oi oj : AOper) : Bool :=
  (match oi.dst with
   | some d => !(oj.looks.contains d) && oj.dst != some d
   | none => true) &&
  (match oj.dst with
   | some d => !(oi.looks.contains d)
   | none => true)

theorem apartA_spec {oi oj : AOper} (h : apartA oi oj = true) : (∀ d, oi.dst = some d → d ∉ oj.looks) ∧ (∀ d, oi.dst = some d → oj.dst ≠ some d) ∧ (∀ d, oj.dst = some d → d ∉ oi.looks) := by
  refine ⟨fun d hd => ?_, fun d hd => ?_, fun d hd => ?_⟩ <;> simp [apartA, hd] at h
  · exact h.1.1
  · exact h.1.2
  · exact h.2

def spares (oi oj : AOper) : Bool := match oi.op.loads, oj.op.spared with
  | some t, some b => t == b
  | _, _ => false

theorem aAny_first {ops : Array Oper} {al : Array AOper} {anc : Array Nat} (hanc : ancOk ops anc = true) {K : St → Prop} {i : Nat} {oi : AOper} (hi : al[i]? = some oi) (his : i < ops.size) (hq : oi.op.cls ≤ 1) :
    ∀ (fuel : Nat) (listed : Array Bool) (s : St) (v : AV), Good ops listed → i ∈ Region.ready .any ops listed →
      (∀ (j : Nat) (oj : AOper), al[j]? = some oj → j ≠ i → listed.getD j true = false → (anc.getD j 0).testBit i = false → apartA oi oj = true ∧ (oi.op.cls = 0 ∨ oj.op.keeps = true ∨ spares oi oj = true)) →
      QVg P oi s v → aAny P ops al K fuel (listed.setIfInBounds i true) (s.put oi.dst v) → aAny P ops al K (fuel + 1) listed s := by
  intro fuel
  induction fuel with
  | zero =>
    intro listed s v hg hr hfree hv H
    refine ⟨fun h => (by rw [h] at hr; cases hr), fun j hj => ?_⟩
    by_cases hji : j = i
    · subst hji; exact ⟨oi, hi, awpOp_of_qvg hq hv H⟩
    · have := ready_mono hj hji
      rw [H.1] at this
      cases this
  | succ fuel ih =>
    intro listed s v hg hr hfree hv H
    refine ⟨fun h => (by rw [h] at hr; cases hr), fun j hj => ?_⟩
    by_cases hji : j = i
    · subst hji; exact ⟨oi, hi, awpOp_of_qvg hq hv H⟩
    · obtain ⟨oj, hoj, h1⟩ := H.2 j (ready_mono hj hji)
      obtain ⟨hjun, _⟩ := mem_ready.1 hj
      have hiun : listed.getD i false = false := by
        have h0 := (mem_ready.1 hr).1
        rcases Nat.lt_or_ge i listed.size with h' | h'
        · simp [h'] at h0 ⊢; exact h0
        · simp [Array.getElem?_eq_none h']
      have hna : (anc.getD j 0).testBit i = false := by
        cases hb : (anc.getD j 0).testBit i with
        | false => rfl
        | true => have := anc_ready hanc hg his hj hb; rw [hiun] at this; cases this
      obtain ⟨hap, hcl⟩ := hfree j oj hoj hji hjun hna
      obtain ⟨p1, p2, p3⟩ := apartA_spec hap
      refine ⟨oj, hoj, ?_⟩
      refine awpOp_mono (fun s1 hs1 => ?_) (awpOp_shape (awpOp_put p1 p2 h1))
      obtain ⟨hs1, hsh⟩ := hs1
      refine ih (listed.setIfInBounds j true) s1 v (good_set hg hj) (ready_mono hr (Ne.symm hji)) (fun k ok hk hki hun hno => ?_) ?_ ?_
      · refine hfree k ok hk hki ?_ hno
        by_cases hjk : j = k
        · subst hjk; exact hjun
        · rw [getD_set_ne true hjk] at hun; exact hun
      · have hagr : Agree s s1 oi.looks := fun t ht => hsh.1 t (fun hd => p3 t hd ht)
        rcases hcl with hcl | hcl | hcl
        · exact hv.agree hagr (.inl hcl)
        · exact hv.agree hagr (.inr ⟨hq, hsh.2.1 hcl⟩)
        · unfold spares at hcl
          split at hcl
          · rename_i t b h1 h2
            have : t = b := by simpa using hcl
            subst this
            exact hv.spare hagr h1 (hsh.2.2 t h2)
          · cases hcl
      · rw [Array.setIfInBounds_comm _ _ hji]
        exact hs1

/-- May the operations be gone through in this one order? -/
def ordOk (ops : Array Oper) (al : Array AOper) (anc : Array Nat) : List Nat → Array Bool → Bool
  | [], listed => (Region.ready .any ops listed).isEmpty
  | i :: r, listed =>
    (match al[i]? with
     | none => false
     | some oi => Region.ready .any ops listed == [i] ||
       (decide (oi.op.cls ≤ 1) && (Region.ready .any ops listed).contains i &&
        (List.range al.size).all fun j => j == i || listed.getD j true || (anc.getD j 0).testBit i ||
          (match al[j]? with
           | some oj => apartA oi oj && (oi.op.cls == 0 || (oj.op.keeps || spares oi oj))
           | none => true))) &&
    ordOk ops al anc r (listed.setIfInBounds i true)

theorem aAny_ord {ops : Array Oper} {al : Array AOper} {anc : Array Nat} (hanc : ancOk ops anc = true) (hsz : al.size = ops.size) {K : St → Prop} :
    ∀ (ord : List Nat) (l : List AOper) (listed : Array Bool) (s : St), ord.mapM (al[·]?) = some l → Good ops listed → ordOk ops al anc ord listed = true → awpOps P l K s → aAny P ops al K ord.length listed s
  | [], l, listed, s, hl, hg, ho, h => by
    simp at hl
    subst hl
    exact ⟨by simpa [ordOk] using ho, h⟩
  | i :: ord, l, listed, s, hl, hg, ho, h => by
    simp only [List.mapM_cons, Option.bind_eq_bind, Option.pure_def, Option.bind_eq_some_iff, Option.some.injEq] at hl
    obtain ⟨oi, hi, l', hl', rfl⟩ := hl
    simp only [ordOk, hi, Bool.and_eq_true, Bool.or_eq_true] at ho
    obtain ⟨ho1, ho2⟩ := ho
    simp only [awpOps] at h
    have his : i < ops.size := by have := (Array.getElem?_eq_some_iff.1 hi).1; omega
    rcases ho1 with ho1 | ho1
    · have hr : Region.ready .any ops listed = [i] := by simpa using ho1
      have hmem : i ∈ Region.ready .any ops listed := by rw [hr]; simp
      refine ⟨fun h0 => (by rw [hr] at h0; cases h0), fun j hj => ?_⟩
      rw [hr] at hj
      simp only [List.mem_singleton] at hj
      subst hj
      exact ⟨oi, hi, awpOp_mono (fun s1 hs1 => aAny_ord hanc hsz ord l' _ s1 hl' (good_set hg hmem) ho2 hs1) h⟩
    · obtain ⟨⟨hq, hmem⟩, hall⟩ := ho1
      have hmem' : i ∈ Region.ready .any ops listed := by simpa using hmem
      have hq' : oi.op.cls ≤ 1 := by simpa using hq
      obtain ⟨v, hv, hk⟩ := awpOp_quiet hq' h
      refine aAny_first hanc hi his hq' ord.length listed s v hg hmem' (fun j oj hj hji hun hna => ?_) hv (aAny_ord hanc hsz ord l' _ _ hl' (good_set hg hmem') ho2 hk)
      have hjs : j < al.size := (Array.getElem?_eq_some_iff.1 hj).1
      simp only [List.all_eq_true, List.mem_range] at hall
      have := hall j hjs
      simp only [hj, hun, hna, Bool.or_false, Bool.or_eq_true, beq_iff_eq, hji, false_or, Bool.and_eq_true, decide_eq_true_eq] at this
      exact this

/-- An order to go by: what is quiet first. -/
def pickOrd (ops : Array Oper) (al : Array AOper) : Nat → Array Bool → List Nat
  | 0, _ => []
  | fuel + 1, listed =>
    match (Region.ready .any ops listed).find? (fun i => match al[i]? with | some o => o.op.cls == 0 | none => false) with
    | some i => i :: pickOrd ops al fuel (listed.setIfInBounds i true)
    | none => match (Region.ready .any ops listed).find? (fun i => match al[i]? with | some o => o.op.cls == 1 | none => false) with
      | some i => i :: pickOrd ops al fuel (listed.setIfInBounds i true)
      | none => match Region.ready .any ops listed with
        | i :: _ => i :: pickOrd ops al fuel (listed.setIfInBounds i true)
        | [] => []

/-- A region that draws its order, compiled. -/
def cdraw (P : Program) (An : Ann) (n : Nat) (ops : Array Oper) : Option (List AOper) :=
  match ops.toList.mapM (coper P An n ops) with
  | none => none
  | some l =>
    let al := l.toArray
    let anc := Region.before ops
    let none' := Array.replicate ops.size false
    let ord := pickOrd ops al ops.size none'
    if ancOk ops anc = true ∧ ordOk ops al anc ord none' = true ∧ ord.length = ops.size then ord.mapM (al[·]?) else none

theorem cdraw_sound {r : Option Nat} (hm : P.follows .mixedOrders = true) {An : Ann} {id : Nat} {ops : Array Oper} {l : List AOper} (hc : cdraw P An n ops = some l) {K : St → Prop} {s : St} {e e0 : Env} {H0 : AHeap} {a : Act}
    (h : awpOps P l K s) (g : Gam e n s a) (hdef : Marks e0 e s.H a.defers) (ht : Tr e0 H0 e s.H) {Q : Exit → Act → World → Prop} (hQ : ∀ a w, Nx n e0 H0 K a w → Q .normal a w) :
    (Code.region id ops true).wpIn (FnR r) 0 P Q a e.w := by
  unfold cdraw at hc
  split at hc
  · cases hc
  · rename_i al0 hal
    simp only at hc
    split at hc
    · rename_i hcond
      obtain ⟨h1, h2, h3⟩ := hcond
      obtain ⟨hlen, hget⟩ := mapM_get hal
      have hsz : al0.toArray.size = ops.size := by simpa using hlen
      refine wpIn_region_any hm ?_
      have hg0 : Good ops (Array.replicate ops.size false) := fun k o hk => by
        by_cases hks : k < ops.size
        · simp [hks] at hk
        · simp [hks] at hk
      have hany := aAny_ord (P := P) (K := K) h1 hsz _ l (Array.replicate ops.size false) s hc hg0 h2 h
      rw [h3] at hany
      have hd : Gam e.drew n s a := ⟨g.N, hrep_drew g.H, g.size, fun t => (g.tm t).ext (ext_drew e)⟩
      refine aAny_sound (n := n) (An := An) (fun i ao hi => ?_) hQ ops.size _ s e.drew a hany hd (hdef.tr (tr_drew e s.H)) (ht.trans (tr_drew e s.H))
      simp only [List.getElem?_toArray] at hi
      have hlt : i < ops.size := by have := (List.getElem?_eq_some_iff.1 hi).1; simp at hlen; omega
      exact ⟨ops[i], by simp [hlt], hget i ops[i] ao (by simp [hlt]) hi⟩
    · cases hc

theorem awpOps_mono' : ∀ {l : List AOper} {K K' : St → Prop} {s : St}, awpOps P l K s → (∀ s, K s → K' s) → awpOps P l K' s
  | [], _, _, _, h, hk => hk _ h
  | _ :: _, _, _, _, h, hk => awpOp_mono (fun _ hs => awpOps_mono' hs hk) h

/-- Edges go back. -/
def lowOk (ops : Array Oper) : Bool := (List.range ops.size).all fun j => match ops[j]? with
  | some o => o.after.toList.all fun e => !Region.binds .any e || decide (e.on < j)
  | none => true

theorem getD_tf {l : Array Bool} {i : Nat} (h : i < l.size) : l.getD i true = l.getD i false := by
  simp [Array.getD_eq_getD_getElem?, h]

theorem ready_nil {ops : Array Oper} {listed : Array Bool} (hlow : lowOk ops = true) (hsz : listed.size = ops.size) (h : Region.ready .any ops listed = []) : ∀ i, i < ops.size → listed.getD i false = true := by
  intro i
  induction i using Nat.strongRecOn with
  | _ i ih =>
    intro hi
    cases hb : listed.getD i false with
    | true => rfl
    | false =>
      have hm : i ∈ Region.ready .any ops listed := mem_ready.2 ⟨by rw [getD_tf (by omega)]; exact hb, ops[i], by simp [hi], fun e he hbe => by
        simp only [lowOk, List.all_eq_true, List.mem_range] at hlow
        have h1 := hlow i hi
        rw [show ops[i]? = some ops[i] by simp [hi]] at h1
        simp only [List.all_eq_true] at h1
        have h2 := h1 e (by simpa using he)
        rw [hbe] at h2
        simp only [Bool.not_true, Bool.false_or, decide_eq_true_eq] at h2
        exact ih e.on h2 (by omega)⟩
      rw [h] at hm
      cases hm

theorem unl_set : ∀ (l : List Bool) (k : Nat), l[k]? = some false → ((l.set k true).filter (!·)).length + 1 = (l.filter (!·)).length
  | [], k, h => by simp at h
  | b :: l, 0, h => by
    simp at h
    subst h
    simp
  | b :: l, k + 1, h => by
    have := unl_set l k (by simpa using h)
    cases b <;> simp [List.filter_cons] <;> omega

theorem unl_zero {l : List Bool} (h : (l.filter (!·)).length = 0) {k : Nat} (hk : k < l.length) : l[k]? = some true := by
  have h1 : l.filter (!·) = [] := List.eq_nil_of_length_eq_zero h
  have h2 : l[k] ∈ l := List.getElem_mem hk
  rw [List.filter_eq_nil_iff] at h1
  have := h1 _ h2
  rw [List.getElem?_eq_getElem hk]
  cases hb : l[k] <;> simp [hb] at this ⊢

/-- May this one be taken now, and serve for all orders? -/
def stepOk (ops : Array Oper) (al : Array AOper) (anc : Array Nat) (listed : Array Bool) (i : Nat) : Bool :=
  match al[i]? with
  | none => false
  | some oi => Region.ready .any ops listed == [i] ||
    (decide (oi.op.cls ≤ 1) && (Region.ready .any ops listed).contains i &&
     (List.range al.size).all fun j => j == i || listed.getD j true || (anc.getD j 0).testBit i ||
       (match al[j]? with
        | some oj => apartA oi oj && (oi.op.cls == 0 || (oj.op.keeps || spares oi oj))
        | none => true))

def preOk (ops : Array Oper) (al : Array AOper) (anc : Array Nat) : List Nat → Array Bool → Bool
  | [], _ => true
  | i :: r, listed => stepOk ops al anc listed i && preOk ops al anc r (listed.setIfInBounds i true)

def marked (l : Array Bool) (ord : List Nat) : Array Bool := ord.foldl (fun l i => l.setIfInBounds i true) l

theorem step_ready {ops : Array Oper} {al : Array AOper} {anc : Array Nat} {listed : Array Bool} {i : Nat} (h : stepOk ops al anc listed i = true) : i ∈ Region.ready .any ops listed := by
  unfold stepOk at h
  split at h
  · cases h
  · simp only [Bool.or_eq_true, Bool.and_eq_true] at h
    rcases h with h | h
    · have hr : Region.ready .any ops listed = [i] := by simpa using h
      rw [hr]; simp
    · simpa using h.1.2

theorem marked_good {ops : Array Oper} {al : Array AOper} {anc : Array Nat} : ∀ (ord : List Nat) (listed : Array Bool), Good ops listed → preOk ops al anc ord listed = true → Good ops (marked listed ord)
  | [], _, h, _ => h
  | i :: r, listed, h, ho => by
    simp only [preOk, Bool.and_eq_true] at ho
    exact marked_good r _ (good_set h (step_ready ho.1)) ho.2

theorem marked_size : ∀ (ord : List Nat) (listed : Array Bool), (marked listed ord).size = listed.size
  | [], _ => rfl
  | i :: r, listed => (marked_size r (listed.setIfInBounds i true)).trans (by simp)

theorem marked_unl {ops : Array Oper} {al : Array AOper} {anc : Array Nat} : ∀ (ord : List Nat) (listed : Array Bool), listed.size = ops.size → preOk ops al anc ord listed = true → ((marked listed ord).toList.filter (!·)).length + ord.length = (listed.toList.filter (!·)).length
  | [], _, _, _ => rfl
  | i :: r, listed, hs, ho => by
    simp only [preOk, Bool.and_eq_true] at ho
    have h1 := marked_unl r (listed.setIfInBounds i true) (by simpa using hs) ho.2
    obtain ⟨h2, o, h3, _⟩ := mem_ready.1 (step_ready ho.1)
    have hlt : i < listed.size := by have := (Array.getElem?_eq_some_iff.1 h3).1; omega
    have h4 := unl_set listed.toList i (by
      simp only [Array.getD_eq_getD_getElem?, Array.getElem?_eq_getElem hlt, Option.getD_some] at h2
      simp [hlt, h2])
    rw [← Array.toList_setIfInBounds] at h4
    have h5 : marked listed (i :: r) = marked (listed.setIfInBounds i true) r := rfl
    rw [h5]
    simp only [List.length_cons]
    omega

theorem aAny_pre {ops : Array Oper} {al : Array AOper} {anc : Array Nat} (hanc : ancOk ops anc = true) (hsz : al.size = ops.size) {K : St → Prop} {m : Nat} :
    ∀ (ord : List Nat) (l : List AOper) (listed : Array Bool) (s : St), ord.mapM (al[·]?) = some l → Good ops listed → preOk ops al anc ord listed = true →
      awpOps P l (fun s' => aAny P ops al K m (marked listed ord) s') s → aAny P ops al K (ord.length + m) listed s
  | [], l, listed, s, hl, hg, ho, h => by
    simp at hl
    subst hl
    simpa [marked, awpOps] using h
  | i :: ord, l, listed, s, hl, hg, ho, h => by
    simp only [List.mapM_cons, Option.bind_eq_bind, Option.pure_def, Option.bind_eq_some_iff, Option.some.injEq] at hl
    obtain ⟨oi, hi, l', hl', rfl⟩ := hl
    simp only [preOk, Bool.and_eq_true] at ho
    obtain ⟨ho1, ho2⟩ := ho
    have hmem := step_ready ho1
    simp only [stepOk, hi, Bool.and_eq_true, Bool.or_eq_true] at ho1
    simp only [awpOps] at h
    have his : i < ops.size := by have := (Array.getElem?_eq_some_iff.1 hi).1; omega
    have hlen : (i :: ord).length + m = (ord.length + m) + 1 := by simp only [List.length_cons]; omega
    rw [hlen]
    rcases ho1 with ho1 | ho1
    · have hr : Region.ready .any ops listed = [i] := by simpa using ho1
      refine ⟨fun h0 => (by rw [hr] at h0; cases h0), fun j hj => ?_⟩
      rw [hr] at hj
      simp only [List.mem_singleton] at hj
      subst hj
      exact ⟨oi, hi, awpOp_mono (fun s1 hs1 => aAny_pre hanc hsz ord l' _ s1 hl' (good_set hg hmem) ho2 hs1) h⟩
    · obtain ⟨⟨hq, _⟩, hall⟩ := ho1
      have hq' : oi.op.cls ≤ 1 := by simpa using hq
      obtain ⟨v, hv, hk⟩ := awpOp_quiet hq' h
      refine aAny_first hanc hi his hq' (ord.length + m) listed s v hg hmem (fun j oj hj hji hun hna => ?_) hv (aAny_pre hanc hsz ord l' _ _ hl' (good_set hg hmem) ho2 hk)
      have hjs : j < al.size := (Array.getElem?_eq_some_iff.1 hj).1
      simp only [List.all_eq_true, List.mem_range] at hall
      have := hall j hjs
      simp only [hj, hun, hna, Bool.or_false, Bool.or_eq_true, beq_iff_eq, hji, false_or, Bool.and_eq_true, decide_eq_true_eq] at this
      exact this

/-- Those of D that are still to be done. -/
def undone (listed : Array Bool) (D : List Nat) : List Nat := D.filter fun i => !listed.getD i false

theorem undone_set {listed : Array Bool} {k : Nat} (hk : k < listed.size) (hkl : listed.getD k false = false) : ∀ (D : List Nat), D.Nodup → k ∈ D → (undone (listed.setIfInBounds k true) D).length + 1 = (undone listed D).length
  | [], _, h => by cases h
  | i :: D, hn, h => by
    rw [List.nodup_cons] at hn
    have hset : (listed.setIfInBounds k true).getD k false = true := by simp [Array.getD_eq_getD_getElem?, hk]
    by_cases hik : i = k
    · subst hik
      have hD : undone (listed.setIfInBounds i true) D = undone listed D := List.filter_congr fun j hj => by
        rw [getD_set_ne false (show i ≠ j from fun h => hn.1 (h ▸ hj))]
      have h1 : undone (listed.setIfInBounds i true) (i :: D) = undone (listed.setIfInBounds i true) D := by unfold undone; rw [List.filter_cons_of_neg (by rw [hset]; simp)]
      have h2 : undone listed (i :: D) = i :: undone listed D := by unfold undone; rw [List.filter_cons_of_pos (by rw [hkl]; rfl)]
      rw [h1, h2, hD]
      rfl
    · have hkD : k ∈ D := (List.mem_cons.1 h).resolve_left fun h => hik h.symm
      have ih := undone_set hk hkl D hn.2 hkD
      have he : (listed.setIfInBounds k true).getD i false = listed.getD i false := getD_set_ne false (fun h => hik h.symm)
      cases hb : listed.getD i false with
      | true =>
        have h1 : undone (listed.setIfInBounds k true) (i :: D) = undone (listed.setIfInBounds k true) D := by unfold undone; rw [List.filter_cons_of_neg (by rw [he, hb]; simp)]
        have h2 : undone listed (i :: D) = undone listed D := by unfold undone; rw [List.filter_cons_of_neg (by rw [hb]; simp)]
        rw [h1, h2]; exact ih
      | false =>
        have h1 : undone (listed.setIfInBounds k true) (i :: D) = i :: undone (listed.setIfInBounds k true) D := by unfold undone; rw [List.filter_cons_of_pos (by rw [he, hb]; rfl)]
        have h2 : undone listed (i :: D) = i :: undone listed D := by unfold undone; rw [List.filter_cons_of_pos (by rw [hb]; rfl)]
        rw [h1, h2, List.length_cons, List.length_cons, ih]

theorem getD_marked : ∀ (D : List Nat) (l0 : Array Bool) (i : Nat), (marked l0 D).getD i false = (l0.getD i false || (decide (i ∈ D) && decide (i < l0.size)))
  | [], l0, i => by simp [marked]
  | k :: D, l0, i => by
    have h := getD_marked D (l0.setIfInBounds k true) i
    have h2 : marked l0 (k :: D) = marked (l0.setIfInBounds k true) D := rfl
    rw [h2, h]
    by_cases hik : k = i
    · subst hik
      by_cases hs : k < l0.size
      · have : (l0.setIfInBounds k true).getD k false = true := by simp [Array.getD_eq_getD_getElem?, hs]
        rw [this]; simp [hs]
      · simp [hs, Array.getD_eq_getD_getElem?]
    · rw [getD_set_ne false hik]
      have : (i ∈ k :: D) ↔ i ∈ D := by simp [show i ≠ k from fun h => hik h.symm]
      simp only [this, Array.size_setIfInBounds]

theorem ext_getD {a b : Array Bool} (hs : a.size = b.size) (h : ∀ i, i < a.size → a.getD i false = b.getD i false) : a = b := Array.ext hs fun i h1 h2 => by
  have := h i h1
  simpa [Array.getD_eq_getD_getElem?, h1, h2] using this

/-- May these be done in any row, all others behind them? -/
def dOk (ops : Array Oper) (anc : Array Nat) (l0 : Array Bool) (D : List Nat) : Bool :=
  decide D.Nodup && (D.all fun i => decide (i < ops.size) && !(l0.getD i false) && (match ops[i]? with
    | some o => o.after.toList.all fun e => !Region.binds .any e || l0.getD e.on false || D.contains e.on
    | none => false)) &&
  (List.range ops.size).all fun j => l0.getD j false || D.contains j || D.all fun i => (anc.getD j 0).testBit i

def drawOf (ops : Array Oper) (al : Array AOper) (l0 : Array Bool) (D : List Nat) : List (Nat × AOper × List Nat) := D.filterMap fun i =>
  match ops[i]?, al[i]? with
    | some o, some ao => some (i, ao, (o.after.toList.filter fun e => Region.binds .any e && !(l0.getD e.on false)).map (·.on))
    | _, _ => none

theorem mem_drawOf {ops : Array Oper} {al : Array AOper} {l0 : Array Bool} {D : List Nat} {x : Nat × AOper × List Nat} : x ∈ drawOf ops al l0 D ↔
    ∃ o, x.1 ∈ D ∧ ops[x.1]? = some o ∧ al[x.1]? = some x.2.1 ∧ x.2.2 = (o.after.toList.filter fun e => Region.binds .any e && !(l0.getD e.on false)).map (·.on) := by
  unfold drawOf
  rw [List.mem_filterMap]
  constructor
  · rintro ⟨i, hi, h⟩
    split at h
    · rename_i o ao h1 h2
      cases h
      exact ⟨o, hi, h1, h2, rfl⟩
    · cases h
  · rintro ⟨o, h1, h2, h3, h4⟩
    refine ⟨x.1, h1, ?_⟩
    rw [h2, h3]
    simp only
    rw [← h4]

def doneOf (l0 listed : Array Bool) : Nat → Bool := fun i => listed.getD i false && !(l0.getD i false)

theorem aAny_draw {ops : Array Oper} {al : Array AOper} {anc : Array Nat} {l0 : Array Bool} {D : List Nat} (hanc : ancOk ops anc = true) (hlow : lowOk ops = true) (hsz : al.size = ops.size) (hs0 : l0.size = ops.size) (hD : dOk ops anc l0 D = true) {K : St → Prop} {m : Nat} {Inv : (Nat → Bool) → St → Prop}
    (hstep : ∀ x ∈ drawOf ops al l0 D, ∀ L s', DrawAt (drawOf ops al l0 D) L x → Inv L s' → awpOp P x.2.1 (Inv (fun j => L j || j == x.1)) s')
    (hend : ∀ L s', (∀ x ∈ drawOf ops al l0 D, L x.1 = true) → Inv L s' → aAny P ops al K m (marked l0 D) s') :
    ∀ (k : Nat) (listed : Array Bool) (s : St), listed.size = ops.size → (∀ i, l0.getD i false = true → listed.getD i false = true) → (∀ i, listed.getD i false = true → l0.getD i false = true ∨ i ∈ D) → Good ops listed → (undone listed D).length = k →
      Inv (doneOf l0 listed) s → aAny P ops al K (k + m) listed s := by
  simp only [dOk, Bool.and_eq_true, decide_eq_true_eq, List.all_eq_true, Bool.not_eq_true', Bool.or_eq_true, List.mem_range, List.contains_iff_mem] at hD
  obtain ⟨⟨hnd, hin⟩, hup⟩ := hD
  intro k
  induction k with
  | zero =>
    intro listed s hs hsub hsup hg hk h
    have hall : ∀ i ∈ D, listed.getD i false = true := fun i hi => by
      have h1 : undone listed D = [] := List.eq_nil_of_length_eq_zero hk
      unfold undone at h1
      rw [List.filter_eq_nil_iff] at h1
      have := h1 i hi
      simpa using this
    have he : listed = marked l0 D := ext_getD (by rw [marked_size, hs, hs0]) fun i hi => by
      rw [getD_marked]
      cases hb : listed.getD i false with
      | true =>
        rcases hsup i hb with h1 | h1
        · rw [h1]; rfl
        · simp only [h1, decide_true, Bool.true_and]
          rw [show decide (i < l0.size) = true from decide_eq_true (by omega)]
          simp
      | false =>
        cases hb0 : l0.getD i false with
        | true => rw [hsub i hb0] at hb; cases hb
        | false =>
          have : i ∉ D := fun hi' => by rw [hall i hi'] at hb; cases hb
          simp [this]
    rw [Nat.zero_add]
    have := hend _ s (fun x hx => by
      obtain ⟨o, h1, _⟩ := mem_drawOf.1 hx
      have h2 := (hin x.1 h1).1.2
      simp only [doneOf, hall x.1 h1, h2]
      rfl) h
    rw [he]
    exact this
  | succ k ih =>
    intro listed s hs hsub hsup hg hk h
    have hex : ∃ i ∈ D, listed.getD i false = false := by
      rcases hu : undone listed D with _ | ⟨i, r⟩
      · rw [hu] at hk; cases hk
      · have hm : i ∈ undone listed D := by rw [hu]; simp
        unfold undone at hm
        rw [List.mem_filter] at hm
        exact ⟨i, hm.1, by simpa using hm.2⟩
    rw [show k + 1 + m = (k + m) + 1 by omega]
    refine ⟨fun h0 => ?_, fun i hi => ?_⟩
    · obtain ⟨i, h1, h2⟩ := hex
      rw [ready_nil hlow hs h0 i (hin i h1).1.1] at h2
      cases h2
    · obtain ⟨h1, o, h2, h3⟩ := mem_ready.1 hi
      have hlt := (Array.getElem?_eq_some_iff.1 h2).1
      have h1' : listed.getD i false = false := by rw [← getD_tf (by omega)]; exact h1
      have h0 : l0.getD i false = false := by
        cases hb : l0.getD i false with
        | false => rfl
        | true => rw [hsub i hb] at h1'; cases h1'
      have hiD : i ∈ D := by
        rcases hup i hlt with (hb | hb) | hb
        · rw [h0] at hb; cases hb
        · exact hb
        · obtain ⟨i', p1, p2⟩ := hex
          rw [anc_ready hanc hg (hin i' p1).1.1 hi (hb i' p1)] at p2
          cases p2
      have hao : al[i]? = some al[i] := by simp [hsz, hlt]
      have hx : ((i, al[i], (o.after.toList.filter fun e => Region.binds .any e && !(l0.getD e.on false)).map (·.on)) : Nat × AOper × List Nat) ∈ drawOf ops al l0 D := mem_drawOf.2 ⟨o, hiD, h2, hao, rfl⟩
      refine ⟨al[i], hao, ?_⟩
      have key := hstep _ hx (doneOf l0 listed) s ⟨by simp [doneOf, h1'], fun j hj => ?_, fun y hy hy1 j hj => ?_⟩ h
      · refine awpOp_mono (fun s1 hs1 => ?_) key
        refine ih (listed.setIfInBounds i true) s1 (by simpa using hs) (fun k hk => getD_set_true (hsub k hk)) (fun j hj => ?_) (good_set hg hi) ?_ ?_
        · by_cases hji : i = j
          · subst hji; exact .inr hiD
          · rw [getD_set_ne false hji] at hj; exact hsup j hj
        · have := undone_set (by omega) h1' D hnd hiD
          omega
        · have he : doneOf l0 (listed.setIfInBounds i true) = fun j => doneOf l0 listed j || j == i := by
            funext j
            by_cases hj : i = j
            · subst hj
              have : (listed.setIfInBounds i true).getD i false = true := by simp [Array.getD_eq_getD_getElem?, show i < listed.size by omega]
              simp only [doneOf, this, h0]
              simp
            · have hj' : (j == i) = false := by simpa using fun h => hj h.symm
              simp only [doneOf, getD_set_ne false hj, hj', Bool.or_false]
          rw [he]
          exact hs1
      · simp only [List.mem_map, List.mem_filter, Bool.and_eq_true, Bool.not_eq_true'] at hj
        obtain ⟨e, ⟨he, hb, hl⟩, rfl⟩ := hj
        simp only [doneOf, hl, h3 e (by simpa using he) hb]
        rfl
      · obtain ⟨o', k1, k2, k3, k4⟩ := mem_drawOf.1 hy
        rw [k4] at hj
        simp only [List.mem_map, List.mem_filter, Bool.and_eq_true, Bool.not_eq_true'] at hj
        obtain ⟨e, ⟨he, hb, hl⟩, rfl⟩ := hj
        have hly : listed.getD y.1 false = true := by
          simp only [doneOf, Bool.and_eq_true] at hy1
          exact hy1.1
        simp only [doneOf, hl, hg y.1 o' hly k2 e (by simpa using he) hb]
        rfl

/-- As much of an order as serves for all. -/
def pickPre (ops : Array Oper) (al : Array AOper) (anc : Array Nat) : Nat → Array Bool → List Nat
  | 0, _ => []
  | fuel + 1, listed =>
    match (Region.ready .any ops listed).find? (stepOk ops al anc listed) with
    | some i => i :: pickPre ops al anc fuel (listed.setIfInBounds i true)
    | none => []

/-- The least of what is left that all others wait for. -/
def pickD (anc : Array Nat) (rem : List Nat) : List Nat :=
  match (List.range rem.length).find? (fun k => (rem.drop (k + 1)).all fun j => (rem.take (k + 1)).all fun i => (anc.getD j 0).testBit i) with
  | some k => rem.take (k + 1)
  | none => rem

/-- A region's operations: some in a row that serves for all, some in any row, and so on. -/
def pickSegs (ops : Array Oper) (al : Array AOper) (anc : Array Nat) : Nat → Array Bool → List (List Nat × List Nat)
  | 0, _ => []
  | fuel + 1, listed =>
    let ord := pickPre ops al anc ops.size listed
    let l1 := marked listed ord
    match (List.range ops.size).filter (fun i => !l1.getD i false) with
    | [] => [(ord, [])]
    | i :: r => let D := pickD anc (i :: r); (ord, D) :: pickSegs ops al anc fuel (marked l1 D)

def segOk (ops : Array Oper) (al : Array AOper) (anc : Array Nat) : List (List Nat × List Nat) → Array Bool → Bool
  | [], listed => (Region.ready .any ops listed).isEmpty
  | (ord, D) :: r, listed => preOk ops al anc ord listed && dOk ops anc (marked listed ord) D && segOk ops al anc r (marked (marked listed ord) D)

def segLen : List (List Nat × List Nat) → Nat
  | [] => 0
  | (ord, D) :: r => ord.length + (D.length + segLen r)

abbrev Seg := List AOper × List (Nat × AOper × List Nat)

def segOf (ops : Array Oper) (al : Array AOper) : List (List Nat × List Nat) → Array Bool → Option (List Seg)
  | [], _ => some []
  | (ord, D) :: r, listed => match ord.mapM (al[·]?), segOf ops al r (marked (marked listed ord) D) with
    | some l, some g => some ((l, drawOf ops al (marked listed ord) D) :: g)
    | _, _ => none

def segC : List Seg → ACode
  | [] => .skip
  | [(l, [])] => .ops l
  | (l, []) :: r => .seq (.ops l) (segC r)
  | (l, x :: d) :: r => .seq (.ops l) (.seq (.draw (x :: d)) (segC r))

theorem good_marked {ops : Array Oper} {anc : Array Nat} {l0 : Array Bool} {D : List Nat} (hs : l0.size = ops.size) (hg : Good ops l0) (hD : dOk ops anc l0 D = true) : Good ops (marked l0 D) := by
  simp only [dOk, Bool.and_eq_true, decide_eq_true_eq, List.all_eq_true, Bool.not_eq_true', Bool.or_eq_true, List.mem_range, List.contains_iff_mem] at hD
  obtain ⟨⟨_, hin⟩, _⟩ := hD
  intro k o hk ho e he hb
  rw [getD_marked] at hk ⊢
  simp only [Bool.or_eq_true, Bool.and_eq_true, decide_eq_true_eq] at hk ⊢
  rcases hk with hk | ⟨hk, _⟩
  · exact .inl (hg k o hk ho e he hb)
  · obtain ⟨h1, h2⟩ := hin k hk
    rw [ho] at h2
    simp only [List.all_eq_true] at h2
    have h3 := h2 e (by simpa using he)
    rw [hb] at h3
    simp only [Bool.not_true, Bool.false_or, Bool.or_eq_true, List.contains_iff_mem] at h3
    rcases h3 with h3 | h3
    · exact .inl h3
    · exact .inr ⟨h3, by rw [hs]; exact (hin _ h3).1.1⟩

theorem aAny_segs {ops : Array Oper} {al : Array AOper} {anc : Array Nat} (hanc : ancOk ops anc = true) (hlow : lowOk ops = true) (hsz : al.size = ops.size) {Q : AExit → St → Prop} :
    ∀ (g : List (List Nat × List Nat)) (cs : List Seg) (listed : Array Bool) (s : St), segOf ops al g listed = some cs → listed.size = ops.size → Good ops listed → segOk ops al anc g listed = true → awp P (segC cs) Q s → aAny P ops al (Q .normal) (segLen g) listed s
  | [], cs, listed, s, hc, hs, hg, ho, h => by
    simp only [segOf, Option.some.injEq] at hc
    subst hc
    exact ⟨by simpa [segOk] using ho, h⟩
  | (ord, D) :: r, cs, listed, s, hc, hs, hg, ho, h => by
    simp only [segOf] at hc
    split at hc
    · rename_i l g' hl hg'
      cases hc
      simp only [segOk, Bool.and_eq_true] at ho
      obtain ⟨⟨ho1, ho2⟩, ho3⟩ := ho
      have hs1 : (marked listed ord).size = ops.size := by rw [marked_size, hs]
      have hg1 := marked_good ord listed hg ho1
      have hg2 := good_marked hs1 hg1 ho2
      have next := fun s' h' => aAny_segs hanc hlow hsz (Q := Q) r g' (marked (marked listed ord) D) s' hg' (by rw [marked_size, hs1]) hg2 ho3 h'
      refine aAny_pre hanc hsz ord l listed s hl hg ho1 ?_
      cases hd : drawOf ops al (marked listed ord) D with
      | nil =>
        have hDn : D = [] := by
          cases D with
          | nil => rfl
          | cons i D =>
            simp only [dOk, Bool.and_eq_true, decide_eq_true_eq, List.all_eq_true] at ho2
            have hi := (ho2.1.2 i (by simp)).1.1
            have hm : ((i, al[i]'(by omega), ((ops[i]'hi).after.toList.filter fun e => Region.binds .any e && !((marked listed ord).getD e.on false)).map (·.on)) : Nat × AOper × List Nat) ∈ drawOf ops al (marked listed ord) (i :: D) :=
              mem_drawOf.2 ⟨ops[i], by simp, by simp [hi], by simp [hsz, hi], rfl⟩
            rw [hd] at hm
            cases hm
        subst hDn
        rw [hd] at h
        have hm0 : marked (marked listed ord) [] = marked listed ord := rfl
        rw [hm0] at next
        have h2 : awpOps P l (fun s' => awp P (segC g') Q s') s := by
          cases g' with
          | nil => exact h
          | cons x g' => exact h
        refine awpOps_mono' h2 fun s' hs' => ?_
        have := next s' hs'
        simpa using this
      | cons x d =>
        rw [hd] at h
        have h2 : awpOps P l (fun s' => ∃ Inv : (Nat → Bool) → St → Prop, Inv (fun _ => false) s' ∧ (∀ y ∈ x :: d, ∀ L s'', DrawAt (x :: d) L y → Inv L s'' → awpOp P y.2.1 (Inv (fun j => L j || j == y.1)) s'') ∧ ∀ L s'', (∀ y ∈ x :: d, L y.1 = true) → Inv L s'' → awp P (segC g') Q s'') s := by
          cases g' with
          | nil => exact h
          | cons y g' => exact h
        refine awpOps_mono' h2 fun s' hs' => ?_
        obtain ⟨Inv, k1, k2, k3⟩ := hs'
        rw [← hd] at k2 k3
        have hun : (undone (marked listed ord) D).length = D.length := by
          simp only [dOk, Bool.and_eq_true, decide_eq_true_eq, List.all_eq_true, Bool.not_eq_true'] at ho2
          unfold undone
          rw [List.filter_eq_self.2 fun i hi => by rw [(ho2.1.2 i hi).1.2]; rfl]
        refine aAny_draw hanc hlow hsz hs1 ho2 k2 (fun L s'' ha hi => next s'' (k3 L s'' ha hi)) D.length (marked listed ord) s' hs1 (fun i hi => hi) (fun i hi => .inl hi) hg1 hun ?_
        have he : doneOf (marked listed ord) (marked listed ord) = fun _ => false := by
          funext i
          simp only [doneOf]
          cases (marked listed ord).getD i false <;> rfl
        rw [he]
        exact k1
    · cases hc

/-- A region of which no one order serves for all. -/
def cdrawA (P : Program) (An : Ann) (n : Nat) (ops : Array Oper) : Option (List Seg) :=
  match ops.toList.mapM (coper P An n ops) with
  | none => none
  | some l =>
    let al := l.toArray
    let anc := Region.before ops
    let none' := Array.replicate ops.size false
    let g := pickSegs ops al anc ops.size none'
    if ancOk ops anc = true ∧ lowOk ops = true ∧ segOk ops al anc g none' = true ∧ segLen g = ops.size then segOf ops al g none' else none

theorem cdrawA_sound {r : Option Nat} (hm : P.follows .mixedOrders = true) {An : Ann} {id : Nat} {ops : Array Oper} {g : List Seg} (hc : cdrawA P An n ops = some g) {K : AExit → St → Prop} {s : St} {e e0 : Env} {H0 : AHeap} {a : Act}
    (h : awp P (segC g) K s) (g' : Gam e n s a) (hdef : Marks e0 e s.H a.defers) (ht : Tr e0 H0 e s.H) {Q : Exit → Act → World → Prop} (hQ : ∀ a w, Nx n e0 H0 (K .normal) a w → Q .normal a w) :
    (Code.region id ops true).wpIn (FnR r) 0 P Q a e.w := by
  unfold cdrawA at hc
  split at hc
  · cases hc
  · rename_i al0 hal
    simp only at hc
    split at hc
    · rename_i hcond
      obtain ⟨h1, hlow, h2, h3⟩ := hcond
      obtain ⟨hlen, hget⟩ := mapM_get hal
      have hsz : al0.toArray.size = ops.size := by simpa using hlen
      refine wpIn_region_any hm ?_
      have hg0 : Good ops (Array.replicate ops.size false) := fun k o hk => by
        by_cases hks : k < ops.size
        · simp [hks] at hk
        · simp [hks] at hk
      have hany := aAny_segs (P := P) h1 hlow hsz _ g (Array.replicate ops.size false) s hc (by simp) hg0 h2 h
      rw [h3] at hany
      have hd : Gam e.drew n s a := ⟨g'.N, hrep_drew g'.H, g'.size, fun t => (g'.tm t).ext (ext_drew e)⟩
      refine aAny_sound (n := n) (An := An) (fun i ao hi => ?_) hQ ops.size _ s e.drew a hany hd (hdef.tr (tr_drew e s.H)) (ht.trans (tr_drew e s.H))
      simp only [List.getElem?_toArray] at hi
      have hlt : i < ops.size := by have := (List.getElem?_eq_some_iff.1 hi).1; simp at hlen; omega
      exact ⟨ops[i], by simp [hlt], hget i ops[i] ao (by simp [hlt]) hi⟩
    · cases hc

/-! Long regions of quiet operations, in the program's row: a check that the kernel is quick at. -/

def bitsOf (acc : Array Nat) (o : Oper) : Nat := o.after.foldl (fun s e => if Region.binds .any e then s ||| 2 ^ e.on ||| acc.getD e.on 0 else s) 0

theorem bits_fold {acc : Array Nat} {i : Nat} : ∀ (l : List Edge) (s : Nat), (l.foldl (fun s e => if Region.binds .any e then s ||| 2 ^ e.on ||| acc.getD e.on 0 else s) s).testBit i = true → s.testBit i = true ∨ ∃ e ∈ l, Region.binds .any e = true ∧ (e.on = i ∨ (acc.getD e.on 0).testBit i = true)
  | [], s, h => .inl h
  | e :: l, s, h => by
    rw [List.foldl_cons] at h
    rcases bits_fold l _ h with h1 | ⟨e', h1, h2⟩
    · split at h1
      · rename_i hb
        simp only [Nat.testBit_or, Nat.testBit_two_pow, Bool.or_eq_true, decide_eq_true_eq] at h1
        rcases h1 with (h1 | h1) | h1
        · exact .inl h1
        · exact .inr ⟨e, by simp, hb, .inl h1⟩
        · exact .inr ⟨e, by simp, hb, .inr h1⟩
      · exact .inl h1
    · exact .inr ⟨e', by simp [h1], h2⟩

theorem before_fold : ∀ (l : List Oper) (acc0 : Array Nat), (l.foldl (fun acc o => acc.push (bitsOf acc o)) acc0).size = acc0.size + l.length ∧
    (∀ j, j < acc0.size → (l.foldl (fun acc o => acc.push (bitsOf acc o)) acc0).getD j 0 = acc0.getD j 0) ∧
    ∀ (k : Nat) (o : Oper), l[k]? = some o → ∃ acc : Array Nat, acc.size = acc0.size + k ∧ (∀ j, j < acc.size → (l.foldl (fun acc o => acc.push (bitsOf acc o)) acc0).getD j 0 = acc.getD j 0) ∧ (l.foldl (fun acc o => acc.push (bitsOf acc o)) acc0).getD (acc0.size + k) 0 = bitsOf acc o
  | [], acc0 => ⟨rfl, fun _ _ => rfl, fun k o h => by simp at h⟩
  | x :: l, acc0 => by
    obtain ⟨h1, h2, h3⟩ := before_fold l (acc0.push (bitsOf acc0 x))
    rw [Array.size_push] at h1 h2 h3
    refine ⟨by rw [List.foldl_cons, h1, List.length_cons]; omega, fun j hj => ?_, fun k o hk => ?_⟩
    · rw [List.foldl_cons, h2 j (by omega)]
      simp only [Array.getD_eq_getD_getElem?, Array.getElem?_push, if_neg (show j ≠ acc0.size by omega)]
    · rw [List.foldl_cons]
      cases k with
      | zero =>
        simp at hk
        subst hk
        refine ⟨acc0, rfl, fun j hj => ?_, ?_⟩
        · rw [h2 j (by omega)]
          simp only [Array.getD_eq_getD_getElem?, Array.getElem?_push, if_neg (show j ≠ acc0.size by omega)]
        · rw [Nat.add_zero, h2 acc0.size (by omega)]
          simp only [Array.getD_eq_getD_getElem?, Array.getElem?_push, if_true, Option.getD_some]
      | succ k =>
        obtain ⟨acc, g1, g2, g3⟩ := h3 k o (by simpa using hk)
        exact ⟨acc, by omega, g2, by rw [← g3]; congr 1; omega⟩

theorem before_ok {ops : Array Oper} (hlow : lowOk ops = true) : ancOk ops (Region.before ops) = true := by
  have hb : Region.before ops = ops.toList.foldl (fun acc o => acc.push (bitsOf acc o)) #[] := by
    unfold Region.before
    rw [← Array.foldl_toList]
    rfl
  obtain ⟨_, _, h3⟩ := before_fold ops.toList #[]
  simp only [ancOk, List.all_eq_true, List.mem_range]
  intro j hj i hi
  cases hbit : ((Region.before ops).getD j 0).testBit i with
  | false => rfl
  | true =>
    have hjo : ops[j]? = some ops[j] := by simp [hj]
    obtain ⟨acc, g1, g2, g3⟩ := h3 j ops[j] (by simp [hj])
    rw [← hb] at g2 g3
    have hj0 : (#[] : Array Nat).size + j = j := by simp
    rw [hj0] at g3 g1
    rw [g3] at hbit
    have hlo := List.all_eq_true.1 hlow j (List.mem_range.2 hj)
    rw [hjo] at hlo
    simp only [List.all_eq_true] at hlo
    have hbit' : (ops[j].after.toList.foldl (fun s e => if Region.binds .any e then s ||| 2 ^ e.on ||| acc.getD e.on 0 else s) 0).testBit i = true := by
      rw [Array.foldl_toList]; exact hbit
    rcases bits_fold _ _ hbit' with h | ⟨e, he, hbd, h⟩
    · simp at h
    · have hlt : e.on < j := by
        have := hlo e he
        simpa [hbd] using this
      rw [hjo]
      simp only [Bool.not_true, Bool.false_or, Array.any_eq_true']
      refine ⟨e, by simpa using he, ?_⟩
      rcases h with h | h
      · simp only [hbd, hlt, decide_true, Bool.and_true, Bool.true_and, Bool.or_eq_true, beq_iff_eq]
        exact .inl h
      · have := g2 e.on (by omega)
        simp only [hbd, hlt, decide_true, Bool.and_true, Bool.true_and, Bool.or_eq_true, beq_iff_eq]
        exact .inr (by rw [this]; exact h)

/-- May this one go ahead of these? -/
def fastAll (i : Nat) (oi : AOper) : List Nat → List AOper → Bool
  | _, [] => true
  | [], _ :: _ => false
  | b :: bs, oj :: r => (b.testBit i || (apartA oi oj && (oi.op.cls == 0 || (oj.op.keeps || spares oi oj)))) && fastAll i oi bs r
def fastOk : List Nat → List AOper → Nat → Bool
  | _, [], _ => true
  | [], _ :: _, _ => false
  | _ :: as, oi :: r, i => decide (oi.op.cls ≤ 1) && (fastAll i oi as r && fastOk as r (i + 1))

theorem fastAll_at {i : Nat} {oi : AOper} : ∀ {bs : List Nat} {r : List AOper}, fastAll i oi bs r = true → ∀ (k : Nat) (oj : AOper), r[k]? = some oj → ∃ b, bs[k]? = some b ∧ (b.testBit i = true ∨ (apartA oi oj && (oi.op.cls == 0 || (oj.op.keeps || spares oi oj))) = true)
  | _, [], _, k, oj, h => by simp at h
  | [], _ :: _, h, _, _, _ => by simp [fastAll] at h
  | b :: bs, o :: r, h, k, oj, hk => by
    simp only [fastAll, Bool.and_eq_true] at h
    cases k with
    | zero =>
      simp at hk
      subst hk
      refine ⟨b, rfl, ?_⟩
      have := h.1
      simp only [Bool.or_eq_true] at this
      rcases this with h1 | h1
      · exact .inl h1
      · exact .inr (by simpa using h1)
    | succ k => exact fastAll_at h.2 k oj (by simpa using hk)
theorem fastOk_at : ∀ {as : List Nat} {l : List AOper} {n : Nat}, fastOk as l n = true → ∀ (i : Nat) (oi : AOper), l[i]? = some oi → oi.op.cls ≤ 1 ∧ ∀ (j : Nat) (oj : AOper), i < j → l[j]? = some oj → ∃ b, as[j]? = some b ∧ (b.testBit (n + i) = true ∨ (apartA oi oj && (oi.op.cls == 0 || (oj.op.keeps || spares oi oj))) = true)
  | _, [], _, _, i, oi, h => by simp at h
  | [], _ :: _, _, h, _, _, _ => by simp [fastOk] at h
  | a :: as, o :: l, n, h, i, oi, hi => by
    simp only [fastOk, Bool.and_eq_true, decide_eq_true_eq] at h
    obtain ⟨h1, h2, h3⟩ := h
    cases i with
    | zero =>
      simp at hi
      subst hi
      refine ⟨h1, fun j oj hj hjo => ?_⟩
      cases j with
      | zero => omega
      | succ j => exact fastAll_at h2 j oj (by simpa using hjo)
    | succ i =>
      obtain ⟨g1, g2⟩ := fastOk_at h3 i oi (by simpa using hi)
      refine ⟨g1, fun j oj hj hjo => ?_⟩
      cases j with
      | zero => omega
      | succ j =>
        obtain ⟨b, hb, hc⟩ := g2 j oj (by omega) (by simpa using hjo)
        exact ⟨b, by simpa using hb, by rw [show n + (i + 1) = n + 1 + i by omega]; exact hc⟩

def firstN (n i : Nat) : Array Bool := ((List.range n).map fun k => decide (k < i)).toArray
theorem firstN_getD {n i j : Nat} (d : Bool) (hj : j < n) : (firstN n i).getD j d = decide (j < i) := by simp [firstN, hj]
theorem firstN_set {n i : Nat} (hi : i < n) : (firstN n i).setIfInBounds i true = firstN n (i + 1) := by
  refine Array.ext (by simp [firstN]) fun k h1 h2 => ?_
  simp only [firstN, List.setIfInBounds_toArray, List.getElem_toArray, List.getElem_set, List.getElem_map, List.getElem_range]
  by_cases h : i = k
  · rw [if_pos h]; simp; omega
  · rw [if_neg h]; simp; omega
theorem fast_ord {ops : Array Oper} {l : List AOper} (hlow : lowOk ops = true) (hsz : l.length = ops.size) (hf : fastOk (Region.before ops).toList l 0 = true) :
    ∀ (k i : Nat), i + k = ops.size → ordOk ops l.toArray (Region.before ops) (List.range' i k) (firstN ops.size i) = true
  | 0, i, hik => by
    simp only [List.range'_zero, ordOk, List.isEmpty_iff]
    refine List.eq_nil_iff_forall_not_mem.2 fun j hj => ?_
    obtain ⟨h1, o, h2, _⟩ := mem_ready.1 hj
    have hlt : j < ops.size := (Array.getElem?_eq_some_iff.1 h2).1
    rw [firstN_getD _ hlt] at h1
    simp at h1
    omega
  | k + 1, i, hik => by
    have hi : i < l.length := by omega
    have hio : l[i]? = some l[i] := by simp [hi]
    obtain ⟨g1, g2⟩ := fastOk_at hf i l[i] hio
    rw [List.range'_succ]
    simp only [ordOk, List.getElem?_toArray, hio, Bool.and_eq_true]
    refine ⟨?_, ?_⟩
    · simp only [Bool.or_eq_true, Bool.and_eq_true, decide_eq_true_eq]
      refine .inr ⟨⟨g1, ?_⟩, ?_⟩
      · have hm : i ∈ Region.ready .any ops (firstN ops.size i) := mem_ready.2 ⟨by rw [firstN_getD _ (by omega)]; simp, ops[i], by simp [show i < ops.size by omega], fun e he hb => by
          have hlo := List.all_eq_true.1 hlow i (List.mem_range.2 (by omega))
          rw [show ops[i]? = some ops[i] by simp [show i < ops.size by omega]] at hlo
          simp only [List.all_eq_true] at hlo
          have := hlo e (by simpa using he)
          have hlt : e.on < i := by simpa [hb] using this
          rw [firstN_getD _ (by omega)]; simp; omega⟩
        simpa using hm
      · simp only [List.all_eq_true, List.mem_range, List.size_toArray]
        intro j hj
        rcases Nat.lt_trichotomy j i with h | h | h
        · rw [firstN_getD _ (by omega)]; simp [h]
        · simp [h]
        · obtain ⟨b, hb, hc⟩ := g2 j l[j] h (by simp [hj])
          have hgd : (Region.before ops).getD j 0 = b := by
            rw [Array.getD_eq_getD_getElem?, ← Array.getElem?_toList, hb]; rfl
          rw [hgd, show l[j]? = some l[j] by simp [hj]]
          simp only [Bool.or_eq_true]
          rcases hc with hc | hc
          · rw [Nat.zero_add] at hc
            exact .inl (.inr hc)
          · exact .inr (by simpa using hc)
    · rw [firstN_set (by omega)]
      exact fast_ord hlow hsz hf k (i + 1) (by omega)

def cdrawF (P : Program) (An : Ann) (n : Nat) (ops : Array Oper) : Option (List AOper) :=
  match ops.toList.mapM (coper P An n ops) with
  | none => none
  | some l => if lowOk ops = true ∧ fastOk (Region.before ops).toList l 0 = true then some l else none
theorem firstN_zero (n : Nat) : firstN n 0 = Array.replicate n false := by
  refine Array.ext (by simp [firstN]) fun k h1 h2 => by simp [firstN]
theorem mapM_range' {α : Type} (l : List α) : ∀ (k i : Nat), i + k = l.length → (List.range' i k).mapM (fun j => l[j]?) = some (l.drop i)
  | 0, i, h => by simp [List.drop_eq_nil_of_le (by omega : l.length ≤ i)]
  | k + 1, i, h => by
    rw [List.range'_succ, List.mapM_cons]
    have hi : i < l.length := by omega
    simp only [List.getElem?_eq_getElem hi, Option.bind_eq_bind, Option.bind_some, mapM_range' l k (i + 1) (by omega), Option.pure_def]
    rw [List.drop_eq_getElem_cons hi]
theorem cdrawF_sound {r : Option Nat} (hm : P.follows .mixedOrders = true) {An : Ann} {id : Nat} {ops : Array Oper} {l : List AOper} (hc : cdrawF P An n ops = some l) {K : St → Prop} {s : St} {e e0 : Env} {H0 : AHeap} {a : Act}
    (h : awpOps P l K s) (g : Gam e n s a) (hdef : Marks e0 e s.H a.defers) (ht : Tr e0 H0 e s.H) {Q : Exit → Act → World → Prop} (hQ : ∀ a w, Nx n e0 H0 K a w → Q .normal a w) :
    (Code.region id ops true).wpIn (FnR r) 0 P Q a e.w := by
  unfold cdrawF at hc
  split at hc
  · cases hc
  · rename_i al0 hal
    split at hc
    · rename_i hcond
      cases hc
      obtain ⟨h1, h2⟩ := hcond
      obtain ⟨hlen, hget⟩ := mapM_get hal
      have hlen' : l.length = ops.size := by simpa using hlen
      have hsz : l.toArray.size = ops.size := by simpa using hlen
      refine wpIn_region_any hm ?_
      have hg0 : Good ops (firstN ops.size 0) := fun k o hk => by
        rw [firstN_zero] at hk
        by_cases hks : k < ops.size
        · simp [hks] at hk
        · simp [hks] at hk
      have hany := aAny_ord (P := P) (K := K) (before_ok h1) hsz (List.range' 0 ops.size) l (firstN ops.size 0) s (by
        have := mapM_range' l ops.size 0 (by omega)
        simpa using this) hg0 (fast_ord h1 hlen' h2 ops.size 0 (by omega)) h
      rw [firstN_zero, List.length_range'] at hany
      have hd : Gam e.drew n s a := ⟨g.N, hrep_drew g.H, g.size, fun t => (g.tm t).ext (ext_drew e)⟩
      refine aAny_sound (n := n) (An := An) (fun i ao hi => ?_) hQ ops.size _ s e.drew a hany hd (hdef.tr (tr_drew e s.H)) (ht.trans (tr_drew e s.H))
      simp only [List.getElem?_toArray] at hi
      have hlt : i < ops.size := by have := (List.getElem?_eq_some_iff.1 hi).1; omega
      exact ⟨ops[i], by simp [hlt], hget i ops[i] ao (by simp [hlt]) hi⟩
    · cases hc

/-- A region that draws its order, compiled: a long one by the quick check first. -/
def cdrawX (P : Program) (An : Ann) (n : Nat) (ops : Array Oper) : Option (List AOper) :=
  match (if 64 ≤ ops.size then cdrawF P An n ops else none) with
  | some l => some l
  | none => cdraw P An n ops
theorem cdrawX_sound {r : Option Nat} (hm : P.follows .mixedOrders = true) {An : Ann} {id : Nat} {ops : Array Oper} {l : List AOper} (hc : cdrawX P An n ops = some l) {K : St → Prop} {s : St} {e e0 : Env} {H0 : AHeap} {a : Act}
    (h : awpOps P l K s) (g : Gam e n s a) (hdef : Marks e0 e s.H a.defers) (ht : Tr e0 H0 e s.H) {Q : Exit → Act → World → Prop} (hQ : ∀ a w, Nx n e0 H0 K a w → Q .normal a w) :
    (Code.region id ops true).wpIn (FnR r) 0 P Q a e.w := by
  unfold cdrawX at hc
  split at hc
  · rename_i l' hl
    cases hc
    split at hl
    · exact cdrawF_sound hm hl h g hdef ht hQ
    · cases hl
  · exact cdraw_sound hm hc h g hdef ht hQ

end
end Go.Fw

/- Framework, part 16: code, and functions. -/
namespace Go.Fw
set_option linter.unusedSimpArgs false
set_option linter.unusedVariables false
open Go
set_option linter.unusedSectionVars false
variable [Globals]

/-- Code, compiled; within a round there is no further loop over a function. -/
def ccode (P : Program) (An : Ann) (n : Nat) (inR : Bool) : Code → Option ACode
  | .skip => some .skip
  | .region _ ops draw => some (match (if draw = true then cdrawX P An n ops else ops.toList.mapM (coper P An n ops)) with
    | some l => .ops l
    | none => if draw = true then (match cdrawA P An n ops with
      | some g => segC g
      | none => .bad) else .bad)
  | .seq a b => match ccode P An n inR a, ccode P An n inR b with
    | some x, some y => some (.seq x y)
    | _, _ => none
  | .cond c a b => match ccode P An n inR a, ccode P An n inR b with
    | some x, some y => some (.cond (cX c) x y)
    | _, _ => none
  | .block id a => (ccode P An n inR a).map (.block id)
  | .loop a => (ccode P An n inR a).map .loop
  | .exit id => some (.exit id)
  | .ret => some .ret
  | .rangeFunc f params asg body => match ccode P An n true asg, ccode P An n true body with
    | some x, some y => if inR = false ∧ params.toList.all (fun t => decide (t < n)) = true then some (.range (cX f) params.toList x y) else some .bad
    | _, _ => none
  | _ => some .bad

section
variable {P : Program} {n : Nat}

theorem wpIn_loop_ghost {F : Fence} {k : Nat} {Q : Exit → Act → World → Prop} {a : Act} {w : World} {c : Code} (I : Nat → Act → World → Prop) (n₀ : Nat) (h₀ : I n₀ a w)
    (round : ∀ n a w, I n a w → c.wpIn F k P (Exit.then (fun a' w' => ∃ n', n' < n ∧ I n' a' w') Q) a w) : (Code.loop c).wpIn F k P Q a w := by
  refine wpIn_loop (fun a w => ∃ n, I n a w) (fun a w => leastOf (fun n => I n a w)) ⟨n₀, h₀⟩ ?_
  intro a w hI
  refine wpIn_mono (round _ a w (leastOf_spec hI).1) ?_
  intro e a' w' hq
  cases e with
  | normal =>
    obtain ⟨n', hlt, hI'⟩ := hq
    exact show (∃ n, I n a' w') ∧ leastOf (fun n => I n a' w') < leastOf (fun n => I n a w) from ⟨⟨n', hI'⟩, Nat.lt_of_le_of_lt ((leastOf_spec ⟨n', hI'⟩).2 n' hI') hlt⟩
  | exit id => exact hq
  | goto l => exact hq
  | ret => exact hq
  | panic ch => exact hq
  | outgrown => exact hq

theorem set_del {H : AHeap} {id : Nat} {o : AObj} : (H.set id o).del id = H.del id := by
  funext i
  simp only [AHeap.set, AHeap.del]
  split <;> rfl

theorem putL_rep {e : Env} : ∀ (ps : List Nat) (args : List AV) (vs : List Value) (A : Nat → AV) (tmps : Array Value), args.length = ps.length → vs.length = ps.length → (∀ t ∈ ps, t < n) → tmps.size = n →
    (∀ t : Nat, Rep e (A t) (tmps.getD t undef)) → (∀ (i : Nat) (c : AV) (v : Value), args[i]? = some c → vs[i]? = some v → Rep e c v) →
    ((ps.zip vs).foldl (fun t (x : Nat × Value) => t.setIfInBounds x.1 x.2) tmps).size = n ∧ ∀ t : Nat, Rep e (putL A ps args t) (((ps.zip vs).foldl (fun t (x : Nat × Value) => t.setIfInBounds x.1 x.2) tmps).getD t undef)
  | [], args, vs, A, tmps, ha, hv, _, hs, hA, _ => by
    have : args = [] := List.eq_nil_of_length_eq_zero ha
    subst this
    exact ⟨hs, hA⟩
  | p :: ps, a :: args, v :: vs, A, tmps, ha, hv, hp, hs, hA, hr => by
    simp only [List.zip_cons_cons, List.foldl_cons]
    refine putL_rep ps args vs _ _ (by simpa using ha) (by simpa using hv) (fun t ht => hp t (by simp [ht])) (by simpa using hs) (fun t => ?_) (fun i c u hc hu => hr (i + 1) c u (by simpa using hc) (by simpa using hu))
    rw [getD_set _ _ _ _ (by rw [hs]; exact hp p (by simp))]
    split
    · exact hr 0 a v rfl rfl
    · exact hA t
  | p :: ps, [], vs, A, tmps, ha, hv, _, _, _, _ => by simp at ha
  | p :: ps, a :: args, [], A, tmps, ha, hv, _, _, _, _ => by simp at hv

def jumpOf : AExit → Code
  | .normal => .skip
  | .exit i => .exit i
  | .ret => .ret

theorem awp_sound (hm : P.follows .mixedOrders = true) {An : Ann} : ∀ (c : Code) (inR : Bool) (r : Option Nat) (ac : ACode) (Q : AExit → St → Prop) (s : St) (e e0 : Env) (H0 : AHeap) (a : Act), ccode P An n inR c = some ac → (inR = false → r = none) → awp P ac Q s →
    Gam e n s a → Marks e0 e s.H a.defers → Tr e0 H0 e s.H → c.wpIn (FnR r) 0 P (Sat n e0 H0 Q) a e.w := by
  intro c
  induction c with
  | skip => intro inR r ac Q s e e0 H0 a hc hr h g hd ht; cases hc; exact wpIn_skip ⟨.normal, trivial, e, s, rfl, h, g, hd, ht⟩
  | region id ops draw =>
    intro inR r ac Q s e e0 H0 a hc hr h g hd ht
    simp only [ccode, Option.some.injEq] at hc
    split at hc
    · rename_i l hl
      subst hc
      split at hl
      · rename_i hdr
        subst hdr
        exact cdrawX_sound hm hl h g hd ht (fun a w hn => ⟨.normal, trivial, hn⟩)
      · rename_i hdr
        have : draw = false := by simpa using hdr
        subst this
        exact wpIn_region_list (awpOps_sound (K := Q .normal) (fun a w hn => ⟨.normal, trivial, hn⟩) ops.toList l s e a hl h g hd ht)
    · split at hc
      · rename_i hdr
        subst hdr
        split at hc
        · rename_i g' hl
          subst hc
          exact cdrawA_sound hm hl h g hd ht (fun a w hn => ⟨.normal, trivial, hn⟩)
        · subst hc; exact h.elim
      · subst hc; exact h.elim
  | seq x y ihx ihy =>
    intro inR r ac Q s e e0 H0 a hc hr h g hd ht
    simp only [ccode] at hc
    split at hc
    · rename_i ax ay hx hy
      cases hc
      simp only [awp] at h
      refine wpIn_seq (wpIn_mono (ihx inR r ax _ s e e0 H0 a hx hr h g hd ht) ?_)
      rintro x' a' w' ⟨y', hxy, e', s', hw, hq, g', hd', ht'⟩
      cases y' <;> cases x' <;> simp only [ExitRel] at hxy
      · subst hw; exact ihy inR r ay Q s' e' e0 H0 a' hy hr hq g' hd' ht'
      · subst hxy; exact ⟨.exit _, rfl, e', s', hw, hq, g', hd', ht'⟩
      · exact ⟨.ret, trivial, e', s', hw, hq, g', hd', ht'⟩
    · cases hc
  | cond c x y ihx ihy =>
    intro inR r ac Q s e e0 H0 a hc hr h g hd ht
    simp only [ccode] at hc
    split at hc
    · rename_i ax ay hx hy
      cases hc
      simp only [awp] at h
      split at h
      · rename_i t hct
        have hv := g.ev c
        rw [hct] at hv
        generalize hgc : a.eval c = cv at hv
        cases hv
        cases t
        · exact wpIn_cond_false hgc (ihy inR r ay Q s e e0 H0 a hy hr (h.2 rfl) g hd ht)
        · exact wpIn_cond_true hgc (ihx inR r ax Q s e e0 H0 a hx hr (h.1 rfl) g hd ht)
      · exact h.elim
    · cases hc
  | block id x ih =>
    intro inR r ac Q s e e0 H0 a hc hr h g hd ht
    simp only [ccode, Option.map_eq_some_iff] at hc
    obtain ⟨ax, hx, rfl⟩ := hc
    simp only [awp] at h
    refine wpIn_block (wpIn_mono (ih inR r ax _ s e e0 H0 a hx hr h g hd ht) ?_)
    rintro x' a' w' ⟨y', hxy, e', s', hw, hq, g', hd', ht'⟩
    cases y' <;> cases x' <;> simp only [ExitRel] at hxy
    · exact ⟨.normal, trivial, e', s', hw, hq, g', hd', ht'⟩
    · rename_i i j
      subst hxy
      simp only [Exit.inBlock]
      split
      · rename_i hid
        simp only [hid, if_true] at hq
        exact ⟨.normal, trivial, e', s', hw, hq, g', hd', ht'⟩
      · rename_i hid
        simp only [if_neg hid] at hq
        exact ⟨.exit _, rfl, e', s', hw, hq, g', hd', ht'⟩
    · exact ⟨.ret, trivial, e', s', hw, hq, g', hd', ht'⟩
  | loop x ih =>
    intro inR r ac Q s e e0 H0 a hc hr h g hd ht
    simp only [ccode, Option.map_eq_some_iff] at hc
    obtain ⟨ax, hx, rfl⟩ := hc
    simp only [awp] at h
    obtain ⟨J, m0, hJ, hround⟩ := h
    refine wpIn_loop_ghost (fun m a' w' => ∃ e' s', e'.w = w' ∧ J m s' ∧ Gam e' n s' a' ∧ Marks e0 e' s'.H a'.defers ∧ Tr e0 H0 e' s'.H) m0 ⟨e, s, rfl, hJ, g, hd, ht⟩ ?_
    rintro m a' w' ⟨e', s', rfl, hJ', g', hd', ht'⟩
    refine wpIn_mono (ih inR r ax _ s' e' e0 H0 a' hx hr (hround m s' hJ') g' hd' ht') ?_
    rintro x' a2 w2 ⟨y', hxy, e2, s2, hw, hq, g2, hd2, ht2⟩
    cases y' <;> cases x' <;> simp only [ExitRel] at hxy
    · obtain ⟨k, hk, hJk⟩ := hq
      exact ⟨k, hk, e2, s2, hw, hJk, g2, hd2, ht2⟩
    · subst hxy; exact ⟨.exit _, rfl, e2, s2, hw, hq, g2, hd2, ht2⟩
    · exact ⟨.ret, trivial, e2, s2, hw, hq, g2, hd2, ht2⟩
  | exit id => intro inR r ac Q s e e0 H0 a hc hr h g hd ht; cases hc; exact wpIn_exit ⟨.exit id, rfl, e, s, rfl, h, g, hd, ht⟩
  | ret => intro inR r ac Q s e e0 H0 a hc hr h g hd ht; cases hc; exact wpIn_ret ⟨.ret, trivial, e, s, rfl, h, g, hd, ht⟩
  | rangeFunc fx params asg body ih1 ih2 =>
    intro inR r ac Q s e e0 H0 a hc hr h g hd ht
    simp only [ccode] at hc
    split at hc
    · rename_i ax ay hx hy
      split at hc
      · rename_i hps
        obtain ⟨hin, hps⟩ := hps
        have hrn := hr hin
        subst hrn
        have hpn : ∀ t ∈ params.toList, t < n := fun t ht => by simpa using List.all_eq_true.1 hps t ht
        cases hc
        simp only [awp] at h
        split at h
        · rename_i f capt hf
          have hv := g.ev fx
          rw [hf] at hv
          generalize hgx : a.eval fx = xv at hv
          cases hv with
          | fn hfs hcs h1 h2 =>
            rename_i fs cs
            have hfs0 : fs = [] := List.eq_nil_of_length_eq_zero hfs
            subst hfs0
            refine wpIn_rangeFunc fun fn _ => ?_
            obtain ⟨rc, hst, hpe, htm, hpa, has, hbo, hfn, hde⟩ : ∃ rc : Loop, rc.state = .ready ∧ rc.pending = none ∧ rc.tmps = a.tmps ∧ rc.params = params ∧ rc.assign = asg ∧ rc.body = body ∧ rc.fn = fn ∧ rc.defers = e.w.heap.size :=
              ⟨{ state := .ready, pending := none, fn := fn, tmps := a.tmps, params := params, assign := asg, body := body, defers := e.w.heap.size }, rfl, rfl, rfl, rfl, rfl, rfl, rfl, rfl⟩
            have hrc : rc = { state := .ready, pending := none, fn := fn, tmps := a.tmps, params := params, assign := asg, body := body, defers := e.w.heap.size } := by
              cases rc; simp_all
            have hready : ({ rc with state := .ready, pending := none } : Loop) = rc := by cases rc; simp_all
            have htmA : ∀ {e' : Env}, Ext e e' → ∀ t : Nat, Rep e' (s.A t) (rc.tmps.getD t undef) := fun x t => by rw [htm]; exact (g.tm t).ext x
            -- one round
            have hround : ∀ (args : List AV) (H : AHeap) (N : Nat) (Q1 : AV → AHeap → Nat → Prop), H s.N = some (.loop rc s.A) → args.length = params.toList.length →
                awp P ax (fun x s1 => x = .normal ∧ s1.H s.N = some (.loop rc s.A) ∧ awp P ay (fun x s2 => s2.H s.N = some (.loop { rc with state := .busy } s.A) ∧ (match x with
                  | .normal => Q1 (.lit (.bool true)) (s2.H.set s.N (.loop rc s.A)) s2.N
                  | x => Q1 (.lit (.bool false)) (s2.H.set s.N (.loop { rc with state := .done, pending := some (jumpOf x) } s.A)) s2.N)) { s1 with H := s1.H.set s.N (.loop { rc with state := .busy } s.A) }) ⟨putL s.A params.toList args, H, N⟩ →
                YCall P s.N args H N Q1 := by
              intro args H N Q1 ho hlen hw e3 vs hH3 hN3 hvl hvr
              obtain ⟨hid3, _, hl3, htm3⟩ := hH3.at_ s.N _ ho
              refine ⟨rc.fn, _, rc.assign, rc.body, run_yield hl3 (by rw [hpa]; simp [hvl, hlen]), ?_⟩
              have hfold : (rc.params.zip vs.toArray).foldl (fun tmps (x : Tmp × Value) => tmps.setIfInBounds x.1 x.2) rc.tmps = (params.toList.zip vs).foldl (fun t (x : Nat × Value) => t.setIfInBounds x.1 x.2) rc.tmps := by
                rw [hpa, ← Array.foldl_toList, Array.toList_zip]
              obtain ⟨k1, k2⟩ := putL_rep (n := n) (e := e3) params.toList args vs s.A rc.tmps hlen (by rw [hvl, hlen]) hpn (by rw [htm]; exact g.size) htm3 hvr
              have key := ih1 true (some (e3.ρ s.N).1) ax _ ⟨putL s.A params.toList args, H, N⟩ e3 e3 H { tmps := (params.toList.zip vs).foldl (fun t (x : Nat × Value) => t.setIfInBounds x.1 x.2) rc.tmps, defers := [] } hx (fun h => by cases h) hw ⟨hN3, hH3, k1, k2⟩ (Marks.nil _ _ _) (.refl _ _)
              refine roundIn_of_wpIn (F := Fence.wide) trivial ?_
              rw [has, hfold]
              refine wpIn_mono (show asg.wpIn (Fence.wide.inRound (e3.ρ s.N).1) 0 P _ _ _ from key) ?_
              rintro x' a1 w1 ⟨y, hxy, e4, s1, rfl, hq1, g1, hd1, ht1⟩
              obtain ⟨rfl, ho1, hw2⟩ := hq1
              cases x' <;> simp only [ExitRel] at hxy
              simp only [Exit.then]
              have hρ4 : e4.ρ s.N = e3.ρ s.N := ht1.ext.ρ _ hid3
              obtain ⟨hid4, _, hl4, htm4⟩ := g1.H.at_ s.N _ ho1
              rw [← hρ4]
              refine ⟨_, run_beginRound hl4 hst, ?_⟩
              have hx5 : Ext e4 (e4.putO (e4.ρ s.N).1 (.loop { rc with state := .busy })) := ext_putO hl4 rfl (g1.H.at_ s.N _ ho1).2.1
              have hH5 := hrep_putO g1.H ho1 hl4 (o' := .loop { rc with state := .busy }) (ob' := .loop { rc with state := .busy } s.A) rfl ⟨World.putObj_heap_same (lt_of_heap hl4), fun t => (htm4 t).ext hx5⟩
              have t5 := tr_putO g1.H (.loop { rc with state := .busy } s.A) ho1 hl4 (o' := .loop { rc with state := .busy }) rfl
              have key2 := ih2 true (some (e4.ρ s.N).1) ay _ { s1 with H := s1.H.set s.N (.loop { rc with state := .busy } s.A) } (e4.putO (e4.ρ s.N).1 (.loop { rc with state := .busy })) e3 H a1 hy (fun h => by cases h) hw2
                ⟨g1.N, hH5, g1.size, fun t => (g1.tm t).ext hx5⟩ (hd1.tr t5) (ht1.trans t5)
              rw [← hbo] at key2
              refine wpIn_mono (show rc.body.wpIn (Fence.wide.inRound (e4.ρ s.N).1) 0 P _ _ _ from key2) ?_
              rintro x2 a2 w2 ⟨y2, hxy2, e6, s2, rfl, ⟨hob2, hq2⟩, g2, hd2, ht2⟩
              have hρ6 : e6.ρ s.N = e4.ρ s.N := (ht2.ext.ρ _ hid3).trans hρ4.symm
              obtain ⟨hid6, hI6, hl6, htm6⟩ := g2.H.at_ s.N _ hob2
              have fin : ∀ (jump : Option Code) (b : Bool) (rz : Loop), b = jump.isNone → ({ rc with state := if jump.isNone then .ready else .done, pending := jump } : Loop) = rz → Q1 (.lit (.bool b)) (s2.H.set s.N (.loop rz s.A)) s2.N →
                  ∃ v w', (Instr.endRound (e4.ρ s.N).1 jump).run P e6.w = .ok v w' ∧ ∃ v' e' r H', Ending.returned v = .returned v' ∧ e'.w = w' ∧ Q1 r H' e'.N ∧ Rep e' r v' ∧ HRep e' H' ∧ Tr e3 H e' H' := by
                intro jump b rz hb hrz hq
                have hx7 : Ext e6 (e6.putO (e6.ρ s.N).1 (.loop rz)) := ext_putO hl6 rfl hI6
                have htz : rz.tmps = rc.tmps := by rw [← hrz]
                have hH7 := hrep_putO g2.H hob2 hl6 (o' := .loop rz) (ob' := .loop rz s.A) rfl ⟨World.putObj_heap_same (lt_of_heap hl6), fun t => by rw [htz]; exact (htm6 t).ext hx7⟩
                have t7 := tr_putO g2.H (.loop rz s.A) hob2 hl6 (o' := .loop rz) rfl
                have hrun := run_endRound (P := P) jump hl6
                rw [show ({ ({ rc with state := .busy } : Loop) with state := if jump.isNone then .ready else .done, pending := jump } : Loop) = rz from hrz] at hrun
                rw [← hρ6]
                exact ⟨_, _, hrun, .bool b, e6.putO (e6.ρ s.N).1 (.loop rz), .lit (.bool b), _, by rw [hb], rfl, by rw [g2.N.symm] at hq; exact hq, .lit _, hH7, ht2.trans t7⟩
              cases y2 <;> cases x2 <;> simp only [ExitRel] at hxy2
              · exact fin none true rc rfl hready hq2
              · rename_i i j
                subst hxy2
                exact fin (some (.exit i)) false _ rfl rfl hq2
              · exact fin (some .ret) false _ rfl rfl hq2
            -- the loop's own blocks
            have hHD : HRep (e.allocU (.deferred (some []))) s.H := hrep_allocU g.H _
            have tD : Tr e s.H (e.allocU (.deferred (some []))) s.H := tr_allocU g.H _
            generalize heD : e.allocU (.deferred (some [])) = eD at hHD tD
            have hsz : eD.w.heap.size = e.w.heap.size + 1 := by rw [← heD]; exact size_alloc _ _
            have hND : eD.N = s.N := by rw [← heD]; exact g.N
            have hDk : eD.w.heap[e.w.heap.size]? = some (.deferred (some [])) := by rw [← heD]; exact World.alloc_heap_new _ _
            have hmD : Marks e0 eD s.H (mark e.w.heap.size :: a.defers) := by
              obtain ⟨Ds, m1, m2, m3⟩ := hd.tr tD
              have hold : ∀ D ∈ Ds, D < e.w.heap.size := fun D hD => by
                obtain ⟨Ds', m1', _, m3'⟩ := hd
                have : Ds = Ds' := by
                  have hinj : ∀ (l r : List Nat), l.map mark = r.map mark → l = r := fun l r h => List.map_inj_right (f := mark) (fun x y hxy => by simpa [mark] using hxy) |>.1 h
                  exact hinj _ _ (m1.symm.trans m1')
                subst this
                exact lt_of_heap (m3' D hD).1
              refine ⟨e.w.heap.size :: Ds, by rw [List.map_cons, m1], List.nodup_cons.2 ⟨fun hm => Nat.lt_irrefl _ (hold _ hm), m2⟩, fun D hD => ?_⟩
              rcases List.mem_cons.1 hD with rfl | hD
              · refine ⟨hDk, fun hI => ?_, fun hO => ?_, ht.size⟩
                · rw [← heD] at hI
                  exact Nat.lt_irrefl _ (g.H.imm _ hI)
                · rw [← heD] at hO
                  exact Nat.lt_irrefl _ (g.H.own_lt hO)
              · exact m3 D hD
            have x1 : Ext eD (eD.allocO (.loop rc)) := ext_allocO eD _ hHD.imm
            have hH1 : HRep (eD.allocO (.loop rc)) (s.H.set eD.N (.loop rc s.A)) := hrep_allocO hHD _ ⟨World.alloc_heap_new _ _, htmA (tD.ext.trans x1)⟩
            have t1 : Tr eD s.H (eD.allocO (.loop rc)) (s.H.set eD.N (.loop rc s.A)) := tr_allocO hHD _ _
            have hρ1 : (eD.allocO (.loop rc)).ρ s.N = (e.w.heap.size + 1, 0) := by simp [Env.allocO, hND, hsz]
            have hN1 : (eD.allocO (.loop rc)).N = s.N + 1 := by show eD.N + 1 = _; rw [hND]
            rw [hND] at hH1 t1
            have hA := h (.loop rc s.A) (.loop { rc with state := .busy } s.A) (fun x => .loop { rc with state := .done, pending := some (jumpOf x) } s.A) hround
            have hcall := hA.2 (eD.allocO (.loop rc)) (.func (.yield (e.w.heap.size + 1)) #[] #[] :: cs) hH1 hN1 (by simp [hcs]) (fun i c v hc hv => by
              cases i with
              | zero =>
                simp at hc hv
                subst hc; subst hv
                have := Rep.yl (e := eD.allocO (.loop rc)) (id := s.N) (by rw [hN1]; exact Nat.lt_succ_self _)
                rw [hρ1] at this
                exact this
              | succ i => exact (h2 i c v (by simpa using hc) (by simpa using hv)).ext (tD.ext.trans x1))
            refine ⟨e.w.heap.size + 1, [mark e.w.heap.size], (eD.allocO (.loop rc)).w, { target := .fn (.func f) cs.toArray, args := #[.func (.yield (e.w.heap.size + 1)) #[] #[]] }, (eD.allocO (.loop rc)).w, f,
              #[.func (.yield (e.w.heap.size + 1)) #[] #[]] ++ cs.toArray, (eD.allocO (.loop rc)).w, ?_, ?_, fun _ _ => trivial, ?_, fun h => (by cases h), ?_⟩
            · have := run_enterLoop_outer (P := P) (w := e.w) fn a.tmps params asg body
              rw [← hrc] at this
              rw [← heD]
              exact this
            · simp only [resolve, hgx]
              simp [go_sem]
            · simp only [invoke]
              exact goodFn_run hA.1 _ _
            · have harr : (#[.func (.yield (e.w.heap.size + 1)) #[] #[]] ++ cs.toArray : Array Value) = (.func (.yield (e.w.heap.size + 1)) #[] #[] :: cs).toArray := by simp
              rw [harr]
              have key : CallsIn (FnR none) (0 - 1) P f (.func (.yield (e.w.heap.size + 1)) #[] #[] :: cs).toArray (eD.allocO (.loop rc)).w _ := callsIn_wide (n := 0).2 hcall
              refine key.mono ?_
              rintro x w' ⟨v, e', r', H', rfl, rfl, hq, hr', hH', htr⟩
              have hρ' : e'.ρ s.N = (e.w.heap.size + 1, 0) := by rw [htr.ext.ρ s.N (by rw [hN1]; exact Nat.lt_succ_self _)]; exact hρ1
              -- behind the loop
              have behind : ∀ (rz : Loop) (y : AExit), H' s.N = some (.loop rz s.A) → Q y ⟨s.A, H'.del s.N, e'.N⟩ →
                  Nx n e0 H0 (Q y) { a with defers := [mark e.w.heap.size] ++ a.defers } (e'.w.putObj (e.w.heap.size + 1) (.loop { rz with state := .exhausted })) := by
                intro rz y hz hqy
                obtain ⟨hid, hI, hl, htm'⟩ := hH'.at_ s.N _ hz
                have hx2 : Ext e' (e'.putO (e'.ρ s.N).1 (.loop { rz with state := .exhausted })) := ext_putO hl rfl hI
                have hH2 := hrep_putO hH' hz hl (o' := .loop { rz with state := .exhausted }) (ob' := .loop { rz with state := .exhausted } s.A) rfl ⟨World.putObj_heap_same (lt_of_heap hl), fun t => (htm' t).ext hx2⟩
                have t2 := tr_del (tr_putO hH' (.loop { rz with state := .exhausted } s.A) hz hl (o' := .loop { rz with state := .exhausted }) rfl) s.N
                have hH3 := hrep_del hH2 s.N
                rw [set_del] at hH3 t2
                refine ⟨e'.putO (e'.ρ s.N).1 (.loop { rz with state := .exhausted }), ⟨s.A, H'.del s.N, e'.N⟩, ?_, hqy, ⟨rfl, hH3, g.size, fun t => ?_⟩, ((hmD.tr t1).tr htr).tr t2, ((ht.trans tD).trans t1).trans (htr.trans t2)⟩
                · rw [hρ']; rfl
                · exact (g.tm t).ext (tD.ext.trans (x1.trans (htr.ext.trans hx2)))
              rcases hq with ⟨hz, hqy⟩ | ⟨y, hy, hz, hqy⟩
              · obtain ⟨_, _, hl, _⟩ := hH'.at_ s.N _ hz
                rw [hρ'] at hl
                have hend := run_endLoop (P := P) hl (by rw [hst]; simp)
                have hb := behind rc .normal hz hqy
                rw [hpe] at hend hb
                exact ⟨none, _, hend, .normal, trivial, hb⟩
              · obtain ⟨_, _, hl, _⟩ := hH'.at_ s.N _ hz
                rw [hρ'] at hl
                have hend := run_endLoop (P := P) hl (by simp)
                refine ⟨_, _, hend, ?_⟩
                have hb := behind _ y hz hqy
                cases y with
                | normal => exact absurd rfl hy
                | exit i => exact wpIn_exit ⟨.exit i, rfl, hb⟩
                | ret => exact wpIn_ret ⟨.ret, trivial, hb⟩
        · exact h.elim
      · cases hc; exact h.elim
    · cases hc
  | scope b => intro inR r ac Q s e e0 H0 a hc hr h; cases hc; exact h.elim
  | label l => intro inR r ac Q s e e0 H0 a hc hr h; cases hc; exact h.elim
  | goto l => intro inR r ac Q s e e0 H0 a hc hr h; cases hc; exact h.elim
  | refuse w => intro inR r ac Q s e e0 H0 a hc hr h; cases hc; exact h.elim

/-- Where a function's results lie. -/
inductive RV where
  | tmp (t : Nat)
  | cell (t sz : Nat) (ag : Bool)
  deriving Inhabited

def resTmps (P : Program) : List ResultVar → Option (List RV)
  | [] => some []
  | .tmp t :: r => (resTmps P r).map (.tmp t :: ·)
  | .cell a t :: r => match szOf P t, P.underlying t with
    | some sz, some _ => (resTmps P r).map (.cell a sz (isAggB P t) :: ·)
    | _, _ => none

def RV.get (s : St) : RV → Option AV
  | .tmp t => some (s.A t)
  | .cell t sz ag => aload s.H ag sz (s.A t)

/-- What a function answers. -/
def ares (l : List RV) (s : St) (Q : AV → Prop) : Prop :=
  match l with
  | [r] => match r.get s with
    | some v => Q v
    | none => False
  | l => match l.mapM (RV.get s) with
    | some vs => Q (.tup vs)
    | none => False

/-- One result, read. -/
def resRun (tmps : Array Value) : ResultVar → Sem Value
  | .tmp t => pure (tmps.getD t undef)
  | .cell a t => do loadVar t (← asAddr (tmps.getD a undef))

theorem resRun_run {e : Env} {H : AHeap} (hH : HRep e H) {A : Nat → AV} {N : Nat} {tmps : Array Value} (hA : ∀ t : Nat, Rep e (A t) (tmps.getD t undef)) {rv : ResultVar} {r : RV} (h : resTmps P [rv] = some [r]) {x : AV}
    (hx : r.get ⟨A, H, N⟩ = some x) : ∃ u, (resRun tmps rv).run P e.w = .ok u e.w ∧ Rep e x u := by
  cases rv with
  | tmp t =>
    simp [resTmps] at h
    subst h
    simp only [RV.get, Option.some.injEq] at hx
    subst hx
    exact ⟨_, rfl, hA t⟩
  | cell a t =>
    simp only [resTmps] at h
    split at h
    · rename_i sz d hsz hd
      simp at h
      subst h
      simp only [RV.get] at hx
      obtain ⟨u, h1, h2⟩ := aload_run hH hd hsz hx (hA a)
      refine ⟨u, ?_, h2⟩
      have hp : ∃ ad, tmps.getD a undef = .pointer (some ad) := by
        have hr := hA a
        generalize tmps.getD a undef = v at hr ⊢
        unfold aload at hx
        split at hx
        · rename_i cs off ha; simp only [ha] at hr; cases hr; exact ⟨_, rfl⟩
        · rename_i id off ha; simp only [ha] at hr; cases hr; exact ⟨_, rfl⟩
        · cases hx
      obtain ⟨ad, had⟩ := hp
      rw [had] at h1
      simp only [resRun, had, asAddr, Sem.run_bind, Sem.run_pure, Result.andThen_ok]
      simpa [Instr.loadAt, Instr.sureAddr] using h1
    · cases h

theorem resTmps_cons {rv : ResultVar} {rs : List ResultVar} {l : List RV} (h : resTmps P (rv :: rs) = some l) : ∃ r l', l = r :: l' ∧ resTmps P [rv] = some [r] ∧ resTmps P rs = some l' := by
  cases rv with
  | tmp t =>
    simp only [resTmps, Option.map_eq_some_iff] at h
    obtain ⟨l', h1, rfl⟩ := h
    exact ⟨_, l', rfl, by simp [resTmps], h1⟩
  | cell a t =>
    simp only [resTmps] at h
    split at h
    · rename_i sz d hsz hd
      simp only [Option.map_eq_some_iff] at h
      obtain ⟨l', h1, rfl⟩ := h
      exact ⟨_, l', rfl, by simp [resTmps, hsz, hd], h1⟩
    · cases h

theorem results_eq (fn : Func) (tmps : Array Value) : results fn tmps = (do
    let vs ← fn.results.mapM (resRun tmps)
    pure (if h : vs.size = 1 then vs[0] else .tuple vs)) := by
  unfold results
  congr 1

/-- All results, read. -/
theorem results_run {fn : Func} {l : List RV} (hl : resTmps P fn.results.toList = some l) (hl3 : l.length ≤ 3) {e : Env} {H : AHeap} (hH : HRep e H) {A : Nat → AV} {N : Nat} {tmps : Array Value} (hA : ∀ t : Nat, Rep e (A t) (tmps.getD t undef))
    {Q : AV → Prop} (hq : ares l ⟨A, H, N⟩ Q) : ∃ v x, (results fn tmps).run P e.w = .ok v e.w ∧ Rep e x v ∧ Q x := by
  rw [results_eq]
  have hfr : fn.results = fn.results.toList.toArray := by simp
  rw [hfr]
  generalize fn.results.toList = rs at hl
  match rs, hl with
  | [], hl =>
    simp [resTmps] at hl
    subst hl
    simp only [ares, List.mapM_nil] at hq
    exact ⟨.tuple #[], _, by simp, .tup (vs := []) rfl (fun i c v hc => by simp at hc), hq⟩
  | [r0], hl =>
    obtain ⟨q0, l1, rfl, h0, hl⟩ := resTmps_cons hl
    simp [resTmps] at hl
    subst hl
    simp only [ares] at hq
    cases hg : q0.get ⟨A, H, N⟩ with
    | none => rw [hg] at hq; exact hq.elim
    | some x0 =>
      rw [hg] at hq
      obtain ⟨u0, k0, p0⟩ := resRun_run hH hA h0 hg
      exact ⟨u0, x0, by simp [k0], p0, hq⟩
  | [r0, r1], hl =>
    obtain ⟨q0, l1, rfl, h0, hl⟩ := resTmps_cons hl
    obtain ⟨q1, l2, rfl, h1, hl⟩ := resTmps_cons hl
    simp [resTmps] at hl
    subst hl
    simp only [ares, List.mapM_cons, List.mapM_nil] at hq
    cases hg0 : q0.get ⟨A, H, N⟩ with
    | none => rw [hg0] at hq; exact hq.elim
    | some x0 =>
    cases hg1 : q1.get ⟨A, H, N⟩ with
    | none => rw [hg0, hg1] at hq; exact hq.elim
    | some x1 =>
      rw [hg0, hg1] at hq
      obtain ⟨u0, k0, p0⟩ := resRun_run hH hA h0 hg0
      obtain ⟨u1, k1, p1⟩ := resRun_run hH hA h1 hg1
      refine ⟨.tuple [u0, u1].toArray, .tup [x0, x1], by simp [k0, k1], .tup rfl (fun i c v hc hv => ?_), hq⟩
      match i with
      | 0 => simp at hc hv; subst hc; subst hv; exact p0
      | 1 => simp at hc hv; subst hc; subst hv; exact p1
      | i + 2 => simp at hc
  | [r0, r1, r2], hl =>
    obtain ⟨q0, l1, rfl, h0, hl⟩ := resTmps_cons hl
    obtain ⟨q1, l2, rfl, h1, hl⟩ := resTmps_cons hl
    obtain ⟨q2, l3, rfl, h2, hl⟩ := resTmps_cons hl
    simp [resTmps] at hl
    subst hl
    simp only [ares, List.mapM_cons, List.mapM_nil] at hq
    cases hg0 : q0.get ⟨A, H, N⟩ with
    | none => rw [hg0] at hq; exact hq.elim
    | some x0 =>
    cases hg1 : q1.get ⟨A, H, N⟩ with
    | none => rw [hg0, hg1] at hq; exact hq.elim
    | some x1 =>
    cases hg2 : q2.get ⟨A, H, N⟩ with
    | none => rw [hg0, hg1, hg2] at hq; exact hq.elim
    | some x2 =>
      rw [hg0, hg1, hg2] at hq
      obtain ⟨u0, k0, p0⟩ := resRun_run hH hA h0 hg0
      obtain ⟨u1, k1, p1⟩ := resRun_run hH hA h1 hg1
      obtain ⟨u2, k2, p2⟩ := resRun_run hH hA h2 hg2
      refine ⟨.tuple [u0, u1, u2].toArray, .tup [x0, x1, x2], by simp [k0, k1, k2], .tup rfl (fun i c v hc hv => ?_), hq⟩
      match i with
      | 0 => simp at hc hv; subst hc; subst hv; exact p0
      | 1 => simp at hc hv; subst hc; subst hv; exact p1
      | 2 => simp at hc hv; subst hc; subst hv; exact p2
      | i + 3 => simp at hc
  | r0 :: r1 :: r2 :: r3 :: rs, hl =>
    obtain ⟨q0, l1, rfl, _, hl⟩ := resTmps_cons hl
    obtain ⟨q1, l2, rfl, _, hl⟩ := resTmps_cons hl
    obtain ⟨q2, l3, rfl, _, hl⟩ := resTmps_cons hl
    obtain ⟨q3, l4, rfl, _, hl⟩ := resTmps_cons hl
    simp at hl3

/-- The state in which a function begins. -/
def St0 (args : List AV) (H : AHeap) (N : Nat) : St := { A := fun t => args.getD t (.lit undef), H := H, N := N }

theorem gam0 {e : Env} {args : List AV} {vs : List Value} {H : AHeap} {N nt : Nat} (hH : HRep e H) (hN : e.N = N) (hl : vs.length = args.length) (hle : args.length ≤ nt)
    (hr : ∀ (i : Nat) (c : AV) (v : Value), args[i]? = some c → vs[i]? = some v → Rep e c v) :
    Gam e nt (St0 args H N) { tmps := vs.toArray ++ Array.replicate (nt - vs.toArray.size) undef, defers := [] } := by
  refine ⟨hN, hH, by simp; omega, fun t => ?_⟩
  simp only [St0, Array.getD_eq_getD_getElem?, List.getD]
  by_cases ht : t < args.length
  · rw [Array.getElem?_append_left (by simp; omega)]
    have h1 : args[t]? = some args[t] := by simp [ht]
    have h2 : vs[t]? = some vs[t] := by simp [show t < vs.length by omega]
    rw [h1]
    simp only [List.getElem?_toArray, h2, Option.getD_some]
    exact hr t _ _ h1 h2
  · rw [List.getElem?_eq_none (by omega), Option.getD_none, Array.getElem?_append_right (by simp; omega)]
    rw [Array.getElem?_replicate]
    split
    · exact .lit _
    · exact .lit _

/-- The marks' blocks, shut one by one. -/
theorem marks_shut {fn : Func} {tmps : Array Value} {R : Ending → World → Prop} {e0 : Env} {H0 H : AHeap} : ∀ (Ds : List Nat) (e : Env), Ds.Nodup →
    (∀ D ∈ Ds, e.w.heap[D]? = some (.deferred (some [])) ∧ ¬ e.I D ∧ ¬ Own e H D ∧ e0.w.heap.size ≤ D) → HRep e H → Tr e0 H0 e H →
    (∀ e', Ext e e' → e'.N = e.N → HRep e' H → Tr e0 H0 e' H → ∃ v, (results fn tmps).run P e'.w = .ok v e'.w ∧ R (.returned v) e'.w) →
    LeavesInM (FnR none) 0 P fn tmps R (Ds.map mark) .returning e.w
  | [], e, _, _, hH, ht, hk => hk e (.refl e) rfl hH ht
  | D :: Ds, e, hn, hD, hH, ht, hk => by
    obtain ⟨h1, h2, h3, h4⟩ := hD D (by simp)
    have hx : Ext e (e.putO D (.deferred none)) := ext_putO h1 rfl h2
    refine ⟨by simp, .inl ⟨D, _, rfl, run_takeDeferred h1, ?_⟩⟩
    refine marks_shut Ds (e.putO D (.deferred none)) (List.nodup_cons.1 hn).2 (fun D' hD' => ?_) (hrep_putU hH h1 rfl h2 h3) ⟨ht.ext.trans hx, fun b hb ho => ?_, ht.own, ht.im, ?_, ht.os, ht.tape, ht.output⟩ (fun e' hx' hN' hH' ht' => hk e' (hx.trans hx') hN' hH' ht')
    · obtain ⟨k1, k2, k3, k4⟩ := hD D' (by simp [hD'])
      exact ⟨(World.putObj_heap_other (fun h : D' = D => (List.nodup_cons.1 hn).1 (by rw [← h]; exact hD'))).trans k1, k2, k3, k4⟩
    · exact (World.putObj_heap_other (by omega)).trans (ht.fr b hb ho)
    · show _ ≤ (e.w.putObj _ _).heap.size
      rw [World.putObj_size]
      exact ht.size

/-- A function's contract, out of what holds ahead of its body. -/
theorem acall_of (hm : P.follows .mixedOrders = true) {f : FuncId} {fn : Func} (hf : P.funcs[f]? = some fn) (hgood : goodFn P f = true) {c : Code} (hb : fn.body = some c) {An : Ann} {nt : Nat} (hnt : fn.ntmps = nt) {ac : ACode} (hc : ccode P An nt false c = some ac)
    {l : List RV} (hl : resTmps P fn.results.toList = some l) (hl3 : l.length ≤ 3) {args : List AV} (hle : args.length ≤ nt) {H : AHeap} {N : Nat} {Q : AV → AHeap → Nat → Prop}
    (h : awp P ac (fun x s => match x with | .exit _ => False | _ => ares l s (fun v => Q v s.H s.N)) (St0 args H N)) : ACall P f args H N Q := by
  refine ⟨hgood, fun e vs hH hN hlen hr => ?_⟩
  subst hnt
  have key : CallsIn (FnR none) 0 P f vs.toArray e.w (fun x w' => ∃ v e' r H', x = Ending.returned v ∧ e'.w = w' ∧ Q r H' e'.N ∧ Rep e' r v ∧ HRep e' H' ∧ Tr e H e' H') := by
    refine callsIn_of_wp_marks hf hb trivial (wpIn_mono (awp_sound hm c false none ac _ _ e e H _ hc (fun _ => rfl) h (gam0 hH hN hlen hle hr) (Marks.nil _ _ _) (.refl e H)) ?_)
    rintro x a w ⟨y, hxy, e', s', rfl, hq, g', hd', ht'⟩
    obtain ⟨Ds, m1, m2, m3⟩ := hd'
    have fin : ares l s' (fun v => Q v s'.H s'.N) → LeavesInM (FnR none) 0 P fn a.tmps (fun x w' => ∃ v e' r H', x = Ending.returned v ∧ e'.w = w' ∧ Q r H' e'.N ∧ Rep e' r v ∧ HRep e' H' ∧ Tr e H e' H') a.defers .returning e'.w := fun hq => by
      rw [m1]
      refine marks_shut Ds e' m2 m3 g'.H ht' (fun e2 hx hN2 hH2 ht2 => ?_)
      obtain ⟨v, x, h1, h2, h3⟩ := results_run (P := P) hl hl3 hH2 (A := s'.A) (N := s'.N) (tmps := a.tmps) (fun t => (g'.tm t).ext hx) (Q := fun v => Q v s'.H s'.N) hq
      exact ⟨v, h1, v, e2, x, s'.H, rfl, rfl, by rw [hN2, g'.N]; exact h3, h2, hH2, ht2⟩
    cases y <;> cases x <;> simp only [ExitRel] at hxy
    · exact fin hq
    · exact hq.elim
    · exact fin hq
  exact callsIn_wide.1 key

def noHeap : AHeap := fun _ => none

end
end Go.Fw

/- Framework, part 17: a smaller heap serves; answers that nobody writes any more. -/
namespace Go.Fw
set_option linter.unusedSimpArgs false
set_option linter.unusedVariables false
open Go
set_option linter.unusedSectionVars false
variable [Globals]

def AHeap.or (H F : AHeap) : AHeap := fun id => match H id with
  | some o => some o
  | none => F id

theorem noHeap_or (F : AHeap) : noHeap.or F = F := by funext id; rfl
theorem set_or (H F : AHeap) (id : Nat) (o : AObj) : (H.set id o).or F = (H.or F).set id o := by
  funext i
  simp only [AHeap.or, AHeap.set]
  by_cases h : i = id
  · simp [h]
  · simp [h]

section
variable {P : Program}

/-- What a call on a part of the heap does to the whole. -/
theorem frame_post {e : Env} {H F : AHeap} (hdis : ∀ id o, H id = some o → F id = none) (hH : HRep e (H.or F)) : HRep e H ∧
    ∀ e' H1, HRep e' H1 → Tr e H e' H1 → Keeps F (H1.or F) ∧ HRep e' (H1.or F) ∧ Tr e (H.or F) e' (H1.or F) := by
  have sub : ∀ id o, H id = some o → (H.or F) id = some o := fun id o ho => by simp [AHeap.or, ho]
  have subF : ∀ id o, F id = some o → (H.or F) id = some o := fun id o ho => by
    cases hx : H id with
    | none => simp [AHeap.or, hx, ho]
    | some o' => rw [hdis id o' hx] at ho; cases ho
  have hH0 : HRep e H := ⟨fun id o ho => hH.at_ id o (sub id o ho), fun i j o o' hi hj hij => hH.inj i j o o' (sub i o hi) (sub j o' hj) hij, hH.imm, hH.gl⟩
  refine ⟨hH0, fun e' H1 hH1 htr => ?_⟩
  have own0 : ∀ b, Own e H b → Own e (H.or F) b := fun b ⟨id, o, h1, h2⟩ => ⟨id, o, sub id o h1, h2⟩
  -- the frame's blocks
  have hF : ∀ id o, F id = some o → id < e.N ∧ ¬ Own e H (e.ρ id).1 ∧ (e.ρ id).1 < e.w.heap.size := fun id o ho => by
    obtain ⟨h1, h2, h3⟩ := hH.at_ id o (subF id o ho)
    refine ⟨h1, fun ⟨j, oj, hj, hjb⟩ => ?_, h3.lt⟩
    have := hH.inj j id oj o (sub j oj hj) (subF id o ho) hjb
    subst this
    rw [hdis j oj hj] at ho
    cases ho
  have hFn : ∀ id o, F id = some o → ¬ Own e' H1 (e'.ρ id).1 := fun id o ho hown => by
    obtain ⟨h1, h2, h3⟩ := hF id o ho
    rw [htr.ext.ρ id h1] at hown
    rcases htr.own _ hown with h4 | h4
    · exact h2 h4
    · omega
  have cases_or : ∀ id o, (H1.or F) id = some o → H1 id = some o ∨ (H1 id = none ∧ F id = some o) := fun id o ho => by
    simp only [AHeap.or] at ho
    cases hx : H1 id with
    | none => rw [hx] at ho; exact .inr ⟨rfl, ho⟩
    | some o' => rw [hx] at ho; exact .inl ho
  have hHF : HRep e' (H1.or F) := by
    refine ⟨fun id o ho => ?_, fun i j o o' hi hj hij => ?_, hH1.imm, hH1.gl⟩
    · rcases cases_or id o ho with h1 | ⟨_, h1⟩
      · exact hH1.at_ id o h1
      · obtain ⟨h2, h3, h4⟩ := hF id o h1
        obtain ⟨_, h6, h7⟩ := hH.at_ id o (subF id o h1)
        rw [htr.ext.ρ id h2]
        refine ⟨Nat.lt_of_lt_of_le h2 htr.ext.N, fun hI => ?_, h7.ext htr.ext (htr.fr _ h4 h3)⟩
        rcases htr.im _ hI with h8 | h8 | h8
        · exact h6 h8
        · exact h3 h8
        · omega
    · rcases cases_or i o hi with h1 | ⟨_, h1⟩ <;> rcases cases_or j o' hj with h2 | ⟨_, h2⟩
      · exact hH1.inj i j o o' h1 h2 hij
      · exact absurd ⟨i, o, h1, hij⟩ (hFn j o' h2)
      · exact absurd ⟨j, o', h2, hij.symm⟩ (hFn i o h1)
      · obtain ⟨h3, _, _⟩ := hF i o h1
        obtain ⟨h4, _, _⟩ := hF j o' h2
        rw [htr.ext.ρ i h3, htr.ext.ρ j h4] at hij
        exact hH.inj i j o o' (subF i o h1) (subF j o' h2) hij
  have hkeep : Keeps F (H1.or F) := fun id o ho => by
    cases hx : H1 id with
    | none => simp [AHeap.or, hx, ho]
    | some o' => exact absurd ⟨id, o', hx, rfl⟩ (hFn id o ho)
  refine ⟨hkeep, hHF, htr.ext, fun b hb hn => htr.fr b hb (fun ho => hn (own0 b ho)), fun b ⟨id, o, h1, h2⟩ => ?_, fun b hb => ?_, htr.size, htr.os, htr.tape, htr.output⟩
  · rcases cases_or id o h1 with h3 | ⟨_, h3⟩
    · exact (htr.own b ⟨id, o, h3, h2⟩).imp (own0 b) (fun h => h)
    · refine .inl ⟨id, o, subF id o h3, ?_⟩
      rw [← htr.ext.ρ id (hF id o h3).1]
      exact h2
  · rcases htr.im b hb with h1 | h1 | h1
    · exact .inl h1
    · exact .inr (.inl (own0 b h1))
    · exact .inr (.inr h1)

theorem ACall.frame {f : FuncId} {args : List AV} {H : AHeap} {N : Nat} {Q : AV → AHeap → Nat → Prop} (h : ACall P f args H N Q) (F : AHeap) (hdis : ∀ id o, H id = some o → F id = none) :
    ACall P f args (H.or F) N (fun r H' N' => ∃ H1, H' = H1.or F ∧ Keeps F (H1.or F) ∧ Q r H1 N') := by
  refine ⟨h.1, fun e vs hH hN hl hr => ?_⟩
  obtain ⟨hH0, hpost⟩ := frame_post hdis hH
  refine (h.2 e vs hH0 hN hl hr).mono ?_
  rintro x w' ⟨v, e', r, H1, rfl, rfl, hq, hrep, hH1, htr⟩
  obtain ⟨k1, k2, k3⟩ := hpost e' H1 hH1 htr
  exact ⟨v, e', r, H1.or F, rfl, rfl, ⟨H1, rfl, k1, hq⟩, hrep, k2, k3⟩

theorem YCall.frame {id : Nat} {args : List AV} {H : AHeap} {N : Nat} {Q : AV → AHeap → Nat → Prop} (h : YCall P id args H N Q) (F : AHeap) (hdis : ∀ id o, H id = some o → F id = none) :
    YCall P id args (H.or F) N (fun r H' N' => ∃ H1, H' = H1.or F ∧ Keeps F (H1.or F) ∧ Q r H1 N') := by
  intro e vs hH hN hl hr
  obtain ⟨hH0, hpost⟩ := frame_post hdis hH
  obtain ⟨f, tmps, asg, body, h1, h2⟩ := h e vs hH0 hN hl hr
  refine ⟨f, tmps, asg, body, h1, h2.mono ?_⟩
  rintro x w' ⟨v, e', r, H1, rfl, rfl, hq, hrep, hH1, htr⟩
  obtain ⟨k1, k2, k3⟩ := hpost e' H1 hH1 htr
  exact ⟨v, e', r, H1.or F, rfl, rfl, ⟨H1, rfl, k1, hq⟩, hrep, k2, k3⟩

/-- Objects may be given up. -/
theorem hrep_sub {e : Env} {H H' : AHeap} (h : HRep e H) (hs : ∀ id o, H' id = some o → H id = some o) : HRep e H' :=
  ⟨fun id o ho => h.at_ id o (hs id o ho), fun i j o o' hi hj hij => h.inj i j o o' (hs i o hi) (hs j o' hj) hij, h.imm, h.gl⟩
theorem tr_sub {e e' : Env} {H H1 H2 : AHeap} (h : Tr e H e' H1) (hs : ∀ id o, H2 id = some o → H1 id = some o) : Tr e H e' H2 :=
  ⟨h.ext, h.fr, fun b ⟨id, o, h1, h2⟩ => h.own b ⟨id, o, hs id o h1, h2⟩, h.im, h.size, h.os, h.tape, h.output⟩

theorem ACall.drop {f : FuncId} {args : List AV} {H : AHeap} {N : Nat} {Q : AV → AHeap → Nat → Prop} (h : ACall P f args H N (fun r H' N' => ∃ H1, (∀ id o, H1 id = some o → H' id = some o) ∧ Q r H1 N')) : ACall P f args H N Q :=
  ⟨h.1, fun e vs h1 h2 h3 h4 => (h.2 e vs h1 h2 h3 h4).mono fun _ _ ⟨v, e', r, H', a, b, ⟨H1, c1, c2⟩, d, x, y⟩ => ⟨v, e', r, H1, a, b, c2, d, hrep_sub x c1, tr_sub y c1⟩⟩

theorem YCall.fresh {id : Nat} {args : List AV} {H : AHeap} {N : Nat} {Q : AV → AHeap → Nat → Prop} (h : (∀ j, N ≤ j → H j = none) → YCall P id args H N Q) : YCall P id args H N Q :=
  fun e vs h1 h2 h3 h4 => h (fun j hj => by
    cases ho : H j with
    | none => rfl
    | some o => have := (h1.at_ j o ho).1; omega) e vs h1 h2 h3 h4

/-- What holds behind a call also knows that the numbers that are given are less, and no fewer. -/
theorem YCall.monoF {id : Nat} {args : List AV} {H : AHeap} {N : Nat} {Q Q' : AV → AHeap → Nat → Prop} (h : YCall P id args H N Q) (hq : ∀ r H' N', Q r H' N' → (∀ j, N' ≤ j → H' j = none) → N ≤ N' → Q' r H' N') : YCall P id args H N Q' :=
  fun e vs h1 h2 h3 h4 => by
    obtain ⟨f, tmps, asg, body, k1, k2⟩ := h e vs h1 h2 h3 h4
    refine ⟨f, tmps, asg, body, k1, k2.mono ?_⟩
    rintro x w' ⟨v, e', r, H', hx, hw, hQ, hrep, hH', ht⟩
    refine ⟨v, e', r, H', hx, hw, hq _ _ _ hQ (fun j hj => ?_) (by rw [← h2]; exact ht.ext.N), hrep, hH', ht⟩
    cases ho : H' j with
    | none => rfl
    | some o => have := (hH'.at_ j o ho).1; omega

/-- A call that needs nothing of the heap. -/
theorem ACall.lift {f : FuncId} {args : List AV} {N : Nat} {Q : AV → AHeap → Nat → Prop} (h : ACall P f args noHeap N Q) (F : AHeap) {Q' : AV → AHeap → Nat → Prop}
    (hq : ∀ r H1 N', Q r H1 N' → Keeps F (H1.or F) → Q' r (H1.or F) N') : ACall P f args F N Q' := by
  have h1 := h.frame F (fun id o ho => by cases ho)
  rw [noHeap_or] at h1
  exact h1.mono fun r H' N' ⟨H1, he, hk, hq1⟩ => by subst he; exact hq r H1 N' hq1 hk

mutual
/-- Does a value tell of no number of the abstract heap? -/
def AV.free : AV → Bool
  | .lit _ => true
  | .agg cs => freeL cs
  | .tup cs => freeL cs
  | .sl _ _ es => freeLL es
  | .ip cs _ => freeL cs
  | .mp _ _ => false
  | .ms _ _ _ _ => false
  | .mm _ => false
  | .fn _ a b => freeL a && freeL b
  | .ifc _ a => AV.free a
  | .yl _ => false
  | .junk => true
def freeL : List AV → Bool
  | [] => true
  | a :: r => AV.free a && freeL r
def freeLL : List (List AV) → Bool
  | [] => true
  | a :: r => freeL a && freeLL r
end

theorem freeL_get {cs : List AV} (h : freeL cs = true) {i : Nat} {c : AV} (hc : cs[i]? = some c) : c.free = true := by
  induction cs generalizing i with
  | nil => simp at hc
  | cons a r ih =>
    simp only [freeL, Bool.and_eq_true] at h
    cases i with
    | zero => simp at hc; subst hc; exact h.1
    | succ i => exact ih h.2 (by simpa using hc)

theorem freeLL_get {es : List (List AV)} (h : freeLL es = true) {i : Nat} {x : List AV} (hc : es[i]? = some x) : freeL x = true := by
  induction es generalizing i with
  | nil => simp at hc
  | cons a r ih =>
    simp only [freeLL, Bool.and_eq_true] at h
    cases i with
    | zero => simp at hc; subst hc; exact h.1
    | succ i => exact ih h.2 (by simpa using hc)

theorem freeLL_map {α : Type} (f : α → List AV) (l : List α) (h : ∀ x ∈ l, freeL (f x) = true) : freeLL (l.map f) = true := by
  induction l with
  | nil => rfl
  | cons a r ih => simp only [List.map_cons, freeLL, Bool.and_eq_true]; exact ⟨h a (by simp), ih fun x hx => h x (by simp [hx])⟩

theorem freeL_map {α : Type} (f : α → AV) (l : List α) (h : ∀ x ∈ l, (f x).free = true) : freeL (l.map f) = true := by
  induction l with
  | nil => rfl
  | cons a r ih => simp only [List.map_cons, freeL, Bool.and_eq_true]; exact ⟨h a (by simp), ih fun x hx => h x (by simp [hx])⟩

/-- What a world says of a value that tells of no number, whatever the numbers are. -/
theorem Rep.free {e : Env} {a : AV} {v : Value} (h : Rep e a v) : a.free = true → ∀ (I : Nat → Prop), (∀ b, e.I b → I b) → ∀ ρ N, Rep { w := e.w, I := I, ρ := ρ, N := N } a v := by
  induction h with
  | lit v => intro _ I _ ρ N; exact .lit v
  | agg hl h1 _ ih => intro hf I hI ρ N; simp only [AV.free] at hf; exact .agg hl h1 fun i c v hc hv => ih i c v hc hv (freeL_get hf hc) I hI ρ N
  | tup hl _ ih => intro hf I hI ρ N; simp only [AV.free] at hf; exact .tup hl fun i c v hc hv => ih i c v hc hv (freeL_get hf hc) I hI ρ N
  | slNil sz => intro _ I _ ρ N; exact .slNil sz
  | slE hk => intro _ I _ ρ N; exact .slE hk
  | sl u hk hIb hcap hex hsz hc h1 _ ih =>
    intro hf I hI ρ N
    simp only [AV.free] at hf
    exact .sl u hk (fun h => hI _ (hIb h)) hcap hex hsz hc h1 fun i j x c hx hj => ih i j x c hx hj (freeL_get (freeLL_get hf hx) hj) I hI ρ N
  | ip u hIb hc h1 _ ih =>
    intro hf I hI ρ N
    simp only [AV.free] at hf
    exact .ip u (hI _ hIb) hc h1 fun j c hj => ih j c hj (freeL_get hf hj) I hI ρ N
  | mp _ => intro hf; simp [AV.free] at hf
  | ms _ _ _ _ => intro hf; simp [AV.free] at hf
  | mm _ => intro hf; simp [AV.free] at hf
  | fn hf hc _ _ i1 i2 =>
    intro hfr I hI ρ N
    simp only [AV.free, Bool.and_eq_true] at hfr
    exact .fn hf hc (fun i c v h1 h2 => i1 i c v h1 h2 (freeL_get hfr.1 h1) I hI ρ N) (fun i c v h1 h2 => i2 i c v h1 h2 (freeL_get hfr.2 h1) I hI ρ N)
  | ifc _ ih => intro hf I hI ρ N; simp only [AV.free] at hf; exact .ifc (ih hf I hI ρ N)
  | yl _ => intro hf; simp [AV.free] at hf
  | junk v => intro _ I _ ρ N; exact .junk v

/-- The ghost side when all the objects are left to be. -/
def Env.still (e : Env) (H : AHeap) (ρ : Nat → Nat × Nat) (N : Nat) : Env := { w := e.w, I := fun b => e.I b ∨ Own e H b, ρ := ρ, N := N }

/-- The second value tells, without the heap, what the first tells with it. -/
inductive View (H : AHeap) : AV → AV → Prop where
  | free {a : AV} (h : a.free = true) : View H a a
  | agg {cs ds : List AV} (hl : cs.length = ds.length) (h : ∀ (i : Nat) (c d : AV), cs[i]? = some c → ds[i]? = some d → View H c d) : View H (.agg cs) (.agg ds)
  | tup {cs ds : List AV} (hl : cs.length = ds.length) (h : ∀ (i : Nat) (c d : AV), cs[i]? = some c → ds[i]? = some d → View H c d) : View H (.tup cs) (.tup ds)
  | sl {k : SK} {sz : Nat} {es fs : List (List AV)} (hl : es.length = fs.length) (hl2 : ∀ (i : Nat) (x y : List AV), es[i]? = some x → fs[i]? = some y → x.length = y.length)
      (h : ∀ (i j : Nat) (x y : List AV) (c d : AV), es[i]? = some x → fs[i]? = some y → x[j]? = some c → y[j]? = some d → View H c d) : View H (.sl k sz es) (.sl k sz fs)
  | ms {id off len sz : Nat} {cs ds : List AV} (hid : H id = some (.blk cs)) (hle : off + len * sz ≤ cs.length) (hl : cs.length = ds.length)
      (h : ∀ (i : Nat) (c d : AV), cs[i]? = some c → ds[i]? = some d → View H c d) : View H (.ms id off len sz) (.sl .any sz (chunks sz len (ds.drop off)))
  | mp {id off : Nat} {cs ds : List AV} (hid : H id = some (.blk cs)) (hl : cs.length = ds.length)
      (h : ∀ (i : Nat) (c d : AV), cs[i]? = some c → ds[i]? = some d → View H c d) : View H (.mp id off) (.ip ds off)
  | ifc {t : TypeId} {a b : AV} (h : View H a b) : View H (.ifc t a) (.ifc t b)
  | ip {cs ds : List AV} {off : Nat} (hl : cs.length = ds.length) (h : ∀ (i : Nat) (c d : AV), cs[i]? = some c → ds[i]? = some d → View H c d) : View H (.ip cs off) (.ip ds off)
  | fn {f : Fn} {a b c d : List AV} (hl : a.length = c.length) (h : ∀ (i : Nat) (x y : AV), a[i]? = some x → c[i]? = some y → View H x y)
      (hl2 : b.length = d.length) (h2 : ∀ (i : Nat) (x y : AV), b[i]? = some x → d[i]? = some y → View H x y) : View H (.fn f a b) (.fn f c d)

theorem get_of_len {α β : Type} {l : List α} {r : List β} (h : l.length = r.length) {i : Nat} {y : β} (hy : r[i]? = some y) : ∃ x, l[i]? = some x := by
  have : i < r.length := (List.getElem?_eq_some_iff.1 hy).1
  exact ⟨l[i]'(by omega), by simp [show i < l.length by omega]⟩

theorem View.rep {e : Env} {H : AHeap} (hH : HRep e H) {a b : AV} (h : View H a b) : ∀ {v : Value}, Rep e a v → ∀ ρ N, Rep (e.still H ρ N) b v := by
  -- the cells of an object
  have obj : ∀ {id : Nat} {cs ds : List AV}, H id = some (.blk cs) → cs.length = ds.length →
      (∀ (i : Nat) (c d : AV), cs[i]? = some c → ds[i]? = some d → ∀ {v : Value}, Rep e c v → ∀ ρ N, Rep (e.still H ρ N) d v) → ∀ ρ N, MemAt (e.still H ρ N) (e.ρ id).1 (e.ρ id).2 ds := by
    intro id cs ds hid hl ih ρ N j d hj
    obtain ⟨c, hc⟩ := get_of_len hl hj
    obtain ⟨u, h1, h2, h3⟩ := memAt_obj hH hid j c hc
    exact ⟨u, h1, h2, ih j c d hc hj h3 ρ N⟩
  induction h with
  | free hf => intro v hr ρ N; exact hr.free hf _ (fun b hb => .inl hb) ρ N
  | agg hl _ ih =>
    intro v hr ρ N
    cases hr with
    | agg hl' h1 h2 =>
      refine .agg (hl'.trans hl) h1 fun i d v hd hv => ?_
      obtain ⟨c, hc⟩ := get_of_len hl hd
      exact ih i c d hc hd (h2 i c v hc hv) ρ N
  | tup hl _ ih =>
    intro v hr ρ N
    cases hr with
    | tup hl' h2 =>
      refine .tup (hl'.trans hl) fun i d v hd hv => ?_
      obtain ⟨c, hc⟩ := get_of_len hl hd
      exact ih i c d hc hd (h2 i c v hc hv) ρ N
  | sl hl hl2 _ ih =>
    rename_i k sz es fs _
    intro v hr ρ N
    rcases rep_sl_inv hr with ⟨rfl, hes, rfl⟩ | ⟨hk, b, o, cap, rfl, hcap, hex, hI, hsz, hm⟩ | ⟨hk, hes, ad, rfl⟩
    rotate_right
    · have : fs = [] := List.eq_nil_of_length_eq_zero (by rw [← hl, hes]; rfl)
      subst this
      exact .slE hk
    · have : fs = [] := List.eq_nil_of_length_eq_zero (by rw [← hl, hes]; rfl)
      subst this
      exact .slNil sz
    · rw [hl]
      refine rep_sl_intro (e := e.still H ρ N) hk (fun hne => .inl (hI (fun h0 => hne (List.eq_nil_of_length_eq_zero (by rw [← hl, h0]; rfl))))) (by omega) (fun hx => by rw [← hl]; exact hex hx) (fun y hy => ?_) (fun i y hi j d hj => ?_)
      · obtain ⟨i, hi, hy'⟩ := List.getElem_of_mem hy
        have hyi : fs[i]? = some y := by simp [hi, hy']
        obtain ⟨x, hx⟩ := get_of_len hl hyi
        rw [← hl2 i x y hx hyi]
        exact hsz x (List.mem_of_getElem? hx)
      · obtain ⟨x, hx⟩ := get_of_len hl hi
        obtain ⟨c, hc⟩ := get_of_len (hl2 i x y hx hi) hj
        obtain ⟨u, h1, h2, h3⟩ := hm i x hx j c hc
        exact ⟨u, h1, h2, ih i j x y c d hx hi hc hj h3 ρ N⟩
  | ms hid hle hl _ ih =>
    rename_i id off len sz cs ds _
    intro v hr ρ N
    obtain ⟨hid', ad, cap, hsp, rfl, hlen, hroom⟩ := rep_ms_inv hr
    have hm := obj hid hl ih ρ N
    have hown : (e.still H ρ N).I (e.ρ id).1 := .inr ⟨id, _, hid, rfl⟩
    rcases hroom with h0 | ⟨rfl, _⟩
    · obtain rfl : len = 0 := by omega
      obtain ⟨b, o, s⟩ := ad
      simp only at hsp
      subst hsp
      have := rep_sl_intro (e := e.still H ρ N) (k := .any) (sz := sz) (es := []) (b := b) (o := o) (cap := cap) (by simp) (fun h => absurd rfl h) (by simp) (by simp) (by simp) (fun i x hi => by simp at hi)
      simpa [chunks] using this
    · refine rep_chunks (by simp) hown hlen (by simp) (by simp; omega) (fun j d hj => ?_)
      rw [List.getElem?_drop] at hj
      have := hm _ d hj
      rwa [← Nat.add_assoc] at this
  | mp hid hl _ ih =>
    intro v hr ρ N
    cases hr with
    | mp hid' => exact rep_ip_intro (.inr ⟨_, _, hid, rfl⟩) (obj hid hl ih ρ N)
  | ifc _ ih =>
    intro v hr ρ N
    cases hr with
    | ifc h1 => exact .ifc (ih h1 ρ N)
  | ip hl _ ih =>
    intro v hr ρ N
    obtain ⟨b, o, rfl, hm, hI⟩ := memAt_ip hr
    refine rep_ip_intro (e := e.still H ρ N) (.inl hI) (fun j d hj => ?_)
    obtain ⟨c, hc⟩ := get_of_len hl hj
    obtain ⟨u, h1, h2, h3⟩ := hm j c hc
    exact ⟨u, h1, h2, ih j c d hc hj h3 ρ N⟩
  | fn hl _ hl2 _ ih1 ih2 =>
    intro v hr ρ N
    cases hr with
    | fn hf hc k1 k2 =>
      refine .fn (hf.trans hl) (hc.trans hl2) (fun i y v hy hv => ?_) (fun i y v hy hv => ?_)
      · obtain ⟨x, hx⟩ := get_of_len hl hy
        exact ih1 i x y hx hy (k1 i x v hx hv) ρ N
      · obtain ⟨x, hx⟩ := get_of_len hl2 hy
        exact ih2 i x y hx hy (k2 i x v hx hv) ρ N

/-- Lists of values, seen one by one. -/
def ViewL (H : AHeap) (cs ds : List AV) : Prop := cs.length = ds.length ∧ ∀ (i : Nat) (c d : AV), cs[i]? = some c → ds[i]? = some d → View H c d

theorem ViewL.nil {H : AHeap} : ViewL H [] [] := ⟨rfl, fun i c d h => by simp at h⟩
theorem ViewL.cons {H : AHeap} {c d : AV} {cs ds : List AV} (h : View H c d) (k : ViewL H cs ds) : ViewL H (c :: cs) (d :: ds) :=
  ⟨by simp [k.1], fun i x y hx hy => by
    cases i with
    | zero => simp at hx hy; subst hx; subst hy; exact h
    | succ i => exact k.2 i x y (by simpa using hx) (by simpa using hy)⟩
theorem ViewL.refl {H : AHeap} {cs : List AV} (h : freeL cs = true) : ViewL H cs cs :=
  ⟨rfl, fun i c d hc hd => by rw [hc] at hd; cases hd; exact .free (freeL_get h hc)⟩
theorem View.tup' {H : AHeap} {cs ds : List AV} (h : ViewL H cs ds) : View H (.tup cs) (.tup ds) := .tup h.1 h.2
theorem View.agg' {H : AHeap} {cs ds : List AV} (h : ViewL H cs ds) : View H (.agg cs) (.agg ds) := .agg h.1 h.2
theorem View.ip' {H : AHeap} {cs ds : List AV} {off : Nat} (h : ViewL H cs ds) : View H (.ip cs off) (.ip ds off) := .ip h.1 h.2
theorem View.fn' {H : AHeap} {f : Fn} {a b c d : List AV} (h : ViewL H a c) (k : ViewL H b d) : View H (.fn f a b) (.fn f c d) := .fn h.1 h.2 k.1 k.2
theorem View.ms' {H : AHeap} {id len sz : Nat} {cs ds : List AV} (hid : H id = some (.blk cs)) (hl : len * sz ≤ cs.length) (h : ViewL H cs ds) : View H (.ms id 0 len sz) (.sl .any sz (chunks sz len ds)) := by
  have := View.ms (H := H) (off := 0) (len := len) (sz := sz) hid (by omega) h.1 h.2
  simpa using this

/-- Cells of one each. -/
theorem chunks_one : ∀ (ds : List AV), chunks 1 ds.length ds = ds.map fun d => [d]
  | [] => rfl
  | d :: ds => by simp [chunks, chunks_one ds]

/-- A contract without the heap, out of one that begins with none. -/
theorem PCall.of {f : FuncId} {args : List AV} {r : AV} (h : ∀ N, ACall P f args noHeap N (fun r' H' _ => View H' r' r)) : PCall P f args r := by
  refine ⟨(h 0).1, fun e vs hi hl hr => ?_⟩
  have hH : HRep e noHeap := ⟨(fun id o ho => by cases ho), (fun i j o o' ho => by cases ho), hi.1, hi.2⟩
  refine ((h e.N).2 e vs hH rfl hl hr).mono ?_
  rintro x w' ⟨v, e', r', H', rfl, rfl, hv, hrep, hH', htr⟩
  have hno : ∀ b, ¬ Own e noHeap b := fun b ⟨id, o, ho, _⟩ => by cases ho
  refine ⟨v, e'.still H' e.ρ e.N, rfl, rfl, hv.rep hH' hrep _ _, rfl, rfl, fun b hb => htr.fr b hb (hno b), fun b hb => .inl (htr.ext.I b hb), fun b hb => ?_, htr.size, htr.os, htr.tape, htr.output⟩
  rcases hb with hb | hb
  · rcases htr.im b hb with h1 | h1 | h1
    · exact .inl h1
    · exact absurd h1 (hno b)
    · exact .inr ⟨h1, hH'.imm b hb⟩
  · rcases htr.own b hb with h1 | h1
    · exact absurd h1 (hno b)
    · exact .inr ⟨h1, hH'.own_lt hb⟩

end
end Go.Fw

/- Framework, part 18: one fact per function. -/
namespace Go.Fw
set_option linter.unusedSimpArgs false
set_option linter.unusedVariables false
open Go
set_option linter.unusedSectionVars false
variable [Globals]

/-- A function's code, where its results lie, how many temporaries it has. -/
def codeOf (P : Program) (An : Ann) (f : FuncId) : Option (ACode × List RV × Nat) :=
  match P.funcs[f]? with
  | some fn => match goodFn P f, fn.body.bind (ccode P An fn.ntmps false), resTmps P fn.results.toList with
    | true, some ac, some l => if l.length ≤ 3 then some (ac, l, fn.ntmps) else none
    | _, _, _ => none
  | none => none

section
variable {P : Program}

theorem acall_awp (hm : P.follows .mixedOrders = true) {f : FuncId} {An : Ann} {ac : ACode} {l : List RV} {nt : Nat} (hc : codeOf P An f = some (ac, l, nt))
    {args : List AV} (hle : args.length ≤ nt) {H : AHeap} {N : Nat} {Q : AV → AHeap → Nat → Prop}
    (h : awp P ac (fun x s => match x with | .exit _ => False | _ => ares l s (fun v => Q v s.H s.N)) (St0 args H N)) : ACall P f args H N Q := by
  unfold codeOf at hc
  split at hc
  · rename_i fn hf
    split at hc
    · rename_i ac' l' hg hb hl
      split at hc
      · rename_i hl3
        cases hc
        obtain ⟨c, hc1, hc2⟩ := Option.bind_eq_some_iff.1 hb
        exact acall_of hm hf hg hc1 rfl hc2 hl hl3 hle h
      · cases hc
    · cases hc
  · cases hc

/-- Temporaries, one of them written. -/
def upA (A : Nat → AV) (d : Nat) (v : AV) : Nat → AV := fun t => if t = d then v else A t
def argA (args : List AV) : Nat → AV := fun t => args.getD t (.lit undef)

theorem upA_at (A : Nat → AV) (d : Nat) (v : AV) (t : Nat) : upA A d v t = if t = d then v else A t := rfl
theorem argA_at (args : List AV) (t : Nat) : argA args t = args.getD t (.lit undef) := rfl

end

/-- What is still to be done behind a piece of code. -/
inductive Fr where
  | seq (b : ACode)
  | blk (id : Nat)

abbrev Post := AExit → St → Prop

def contQ (P : Program) : List Fr → Post → Post
  | [], Q => Q
  | .seq b :: fs, Q => fun x s => match x with
    | .normal => awp P b (contQ P fs Q) s
    | .exit i => contQ P fs Q (.exit i) s
    | .ret => contQ P fs Q .ret s
  | .blk id :: fs, Q => fun x s => match x with
    | .normal => contQ P fs Q .normal s
    | .exit i => if i = id then contQ P fs Q .normal s else contQ P fs Q (.exit i) s
    | .ret => contQ P fs Q .ret s

def run (P : Program) (c : ACode) (fs : List Fr) (Q : Post) (s : St) : Prop := awp P c (contQ P fs Q) s
def runOps (P : Program) (os : List AOper) (fs : List Fr) (Q : Post) (s : St) : Prop := awpOps P os (contQ P fs Q .normal) s
def onward (P : Program) (fs : List Fr) (Q : Post) (x : AExit) (s : St) : Prop := contQ P fs Q x s

/-- Behind a call. -/
def afterK (P : Program) (d : Option Nat) (os : List AOper) (fs : List Fr) (Q : Post) (s : St) : AV → AHeap → Nat → Prop := fun v H N => runOps P os fs Q (s.upd d v H N)
def afterKK (P : Program) (d : Option Nat) (os : List AOper) (fs : List Fr) (Q : Post) (s : St) : AV → AHeap → Nat → Prop := fun v H N => Keeps s.H H ∧ runOps P os fs Q (s.upd d v H N)

def thenK (P : Program) (r : Option (AV × AHeap × Nat)) (d : Option Nat) (os : List AOper) (fs : List Fr) (Q : Post) (s : St) : Prop := match r with
  | some (v, H, N) => runOps P os fs Q (s.upd d v H N)
  | none => False

def condK (P : Program) (c : AV) (a b : ACode) (fs : List Fr) (Q : Post) (s : St) : Prop := match c with
  | .lit (.bool t) => (t = true → run P a fs Q s) ∧ (t = false → run P b fs Q s)
  | _ => False

def guardK (P : Program) (c : AV) (w : Bool) (d : Option Nat) (op : AOp) (os : List AOper) (fs : List Fr) (Q : Post) (s : St) : Prop := match c with
  | .lit (.bool b) => (b = w → runOps P (⟨d, op, none⟩ :: os) fs Q s) ∧ (b ≠ w → runOps P os fs Q (s.put d (.lit undef)))
  | .lit (.tuple _) => runOps P os fs Q (s.put d (.lit undef))
  | _ => False

/-- A call: the function, what it is called with, and how it goes on: 0 as it is, 1 keeping all, 2 pure. -/
def callK (P : Program) (kd : Nat) (c : AV) (args : List AV) (d : Option Nat) (os : List AOper) (fs : List Fr) (Q : Post) (s : St) : Prop := match c with
  | .fn (.func f) first capt => match kd with
    | 0 => ACall P f (first ++ args ++ capt) s.H s.N (afterK P d os fs Q s)
    | 1 => ACall P f (first ++ args ++ capt) s.H s.N (afterKK P d os fs Q s)
    | _ => ∃ r, PCall P f (first ++ args ++ capt) r ∧ runOps P os fs Q (s.put d r)
  | .yl id => match kd with
    | 0 => YCall P id args s.H s.N (afterK P d os fs Q s)
    | _ => False
  | _ => False

/-- A loop over a function: what its rounds come to. -/
def rndB (o ob : AObj) (od : AExit → AObj) (id : Nat) (Q1 : AV → AHeap → Nat → Prop) : Post := fun x s => s.H id = some ob ∧ (match x with
  | .normal => Q1 (.lit (.bool true)) (s.H.set id o) s.N
  | x => Q1 (.lit (.bool false)) (s.H.set id (od x)) s.N)
def rndA (P : Program) (o ob : AObj) (od : AExit → AObj) (id : Nat) (body : ACode) (Q1 : AV → AHeap → Nat → Prop) : Post := fun x s => x = .normal ∧ s.H id = some o ∧ run P body [] (rndB o ob od id Q1) ⟨s.A, s.H.set id ob, s.N⟩

/-- A loop over a function. -/
def rangeK (P : Program) (f : AV) (ps : List Nat) (asg body : ACode) (fs : List Fr) (Q : Post) (s : St) : Prop := match f with
  | .fn (.func f) [] capt => ∀ (o ob : AObj) (od : AExit → AObj),
      (∀ (args : List AV) (H : AHeap) (N : Nat) (Q1 : AV → AHeap → Nat → Prop), H s.N = some o → args.length = ps.length →
        run P asg [] (rndA P o ob od s.N body Q1) ⟨putL s.A ps args, H, N⟩ → YCall P s.N args H N Q1) →
      ACall P f (.yl s.N :: capt) (s.H.set s.N o) (s.N + 1) (fun _ H' N' => (H' s.N = some o ∧ onward P fs Q .normal ⟨s.A, H'.del s.N, N'⟩) ∨ ∃ x, x ≠ .normal ∧ H' s.N = some (od x) ∧ onward P fs Q x ⟨s.A, H'.del s.N, N'⟩)
  | _ => False

section
variable {P : Program} {fs : List Fr} {Q : Post} {s : St}

theorem run_skip : run P .skip fs Q s = onward P fs Q .normal s := rfl
theorem run_ops {l : List AOper} : run P (.ops l) fs Q s = runOps P l fs Q s := rfl
theorem run_seq {a b : ACode} : run P (.seq a b) fs Q s = run P a (.seq b :: fs) Q s := rfl
theorem run_block {id : Nat} {a : ACode} : run P (.block id a) fs Q s = run P a (.blk id :: fs) Q s := rfl
theorem run_exit {id : Nat} : run P (.exit id) fs Q s = onward P fs Q (.exit id) s := rfl
theorem run_ret : run P .ret fs Q s = onward P fs Q .ret s := rfl
theorem run_cond {c : AX} {a b : ACode} : run P (.cond c a b) fs Q s = condK P (s.ev c) a b fs Q s := rfl
theorem onward_nil {x : AExit} : onward P [] Q x s = Q x s := rfl
theorem onward_seq_n {b : ACode} : onward P (.seq b :: fs) Q .normal s = run P b fs Q s := rfl
theorem onward_seq_e {b : ACode} {i : Nat} : onward P (.seq b :: fs) Q (.exit i) s = onward P fs Q (.exit i) s := rfl
theorem onward_seq_r {b : ACode} : onward P (.seq b :: fs) Q .ret s = onward P fs Q .ret s := rfl
theorem onward_blk_n {id : Nat} : onward P (.blk id :: fs) Q .normal s = onward P fs Q .normal s := rfl
theorem onward_blk_e {id i : Nat} : onward P (.blk id :: fs) Q (.exit i) s = if i = id then onward P fs Q .normal s else onward P fs Q (.exit i) s := rfl
theorem onward_blk_r {id : Nat} : onward P (.blk id :: fs) Q .ret s = onward P fs Q .ret s := rfl
theorem runOps_nil : runOps P [] fs Q s = onward P fs Q .normal s := rfl
theorem afterK_eq {d : Option Nat} {os : List AOper} {v : AV} {H : AHeap} {N : Nat} : afterK P d os fs Q s v H N = runOps P os fs Q (s.upd d v H N) := rfl
theorem afterKK_eq {d : Option Nat} {os : List AOper} {v : AV} {H : AHeap} {N : Nat} : afterKK P d os fs Q s v H N = (Keeps s.H H ∧ runOps P os fs Q (s.upd d v H N)) := rfl
theorem thenK_some {v : AV} {H : AHeap} {N : Nat} {d : Option Nat} {os : List AOper} : thenK P (some (v, H, N)) d os fs Q s = runOps P os fs Q (s.upd d v H N) := rfl
theorem condK_true {a b : ACode} : condK P (.lit (.bool true)) a b fs Q s ↔ run P a fs Q s := by simp [condK]
theorem condK_false {a b : ACode} : condK P (.lit (.bool false)) a b fs Q s ↔ run P b fs Q s := by simp [condK]
theorem condK_of {t : Bool} {a b : ACode} (h1 : t = true → run P a fs Q s) (h2 : t = false → run P b fs Q s) : condK P (.lit (.bool t)) a b fs Q s := ⟨h1, h2⟩
theorem guardK_true {d : Option Nat} {op : AOp} {os : List AOper} : guardK P (.lit (.bool true)) true d op os fs Q s ↔ runOps P (⟨d, op, none⟩ :: os) fs Q s := by simp [guardK]
theorem guardK_tf {d : Option Nat} {op : AOp} {os : List AOper} : guardK P (.lit (.bool true)) false d op os fs Q s ↔ runOps P os fs Q (s.put d (.lit undef)) := by simp [guardK]
theorem guardK_ft {d : Option Nat} {op : AOp} {os : List AOper} : guardK P (.lit (.bool false)) true d op os fs Q s ↔ runOps P os fs Q (s.put d (.lit undef)) := by simp [guardK]
theorem guardK_false {d : Option Nat} {op : AOp} {os : List AOper} : guardK P (.lit (.bool false)) false d op os fs Q s ↔ runOps P (⟨d, op, none⟩ :: os) fs Q s := by simp [guardK]
theorem guardK_undef {w : Bool} {d : Option Nat} {op : AOp} {os : List AOper} : guardK P (.lit undef) w d op os fs Q s = runOps P os fs Q (s.put d (.lit undef)) := rfl
theorem guardK_tuple {vs : Array Value} {w : Bool} {d : Option Nat} {op : AOp} {os : List AOper} : guardK P (.lit (.tuple vs)) w d op os fs Q s = runOps P os fs Q (s.put d (.lit undef)) := rfl
theorem guardK_of {b w : Bool} {d : Option Nat} {op : AOp} {os : List AOper} (h1 : b = w → runOps P (⟨d, op, none⟩ :: os) fs Q s) (h2 : b ≠ w → runOps P os fs Q (s.put d (.lit undef))) : guardK P (.lit (.bool b)) w d op os fs Q s := ⟨h1, h2⟩
theorem callK_0 {f : FuncId} {first capt args : List AV} {d : Option Nat} {os : List AOper} : callK P 0 (.fn (.func f) first capt) args d os fs Q s = ACall P f (first ++ args ++ capt) s.H s.N (afterK P d os fs Q s) := rfl
theorem callK_1 {f : FuncId} {first capt args : List AV} {d : Option Nat} {os : List AOper} : callK P 1 (.fn (.func f) first capt) args d os fs Q s = ACall P f (first ++ args ++ capt) s.H s.N (afterKK P d os fs Q s) := rfl

/-- A pure call. -/
theorem callK_2 {f : FuncId} {first capt args : List AV} {d : Option Nat} {os : List AOper} {r : AV} (h : PCall P f (first ++ args ++ capt) r) (hk : runOps P os fs Q (s.put d r)) : callK P 2 (.fn (.func f) first capt) args d os fs Q s := ⟨r, h, hk⟩

theorem runOps_guarded {d : Option Nat} {op : AOp} {t : Nat} {w : Bool} {os : List AOper} : runOps P (⟨d, op, some (t, w)⟩ :: os) fs Q s ↔ guardK P (s.A t) w d op os fs Q s := by
  have hdo : ∀ K, awpDo P ⟨d, op, some (t, w)⟩ K s = awpDo P ⟨d, op, none⟩ K s := fun _ => rfl
  unfold runOps awpOps awpOp gate
  simp only [hdo]
  cases hA : s.A t with
  | lit v => cases v <;> simp [guardK, runOps, awpOps, awpOp]
  | _ => simp [guardK]

theorem run_range {f : AX} {ps : List Nat} {asg body : ACode} : run P (.range f ps asg body) fs Q s = rangeK P (s.ev f) ps asg body fs Q s := rfl
theorem runOps_call {d : Option Nat} {f : AX} {args : List AX} {os : List AOper} : runOps P (⟨d, .call f args, none⟩ :: os) fs Q s = callK P 0 (s.ev f) (args.map s.ev) d os fs Q s := rfl
theorem callK_y {id : Nat} {args : List AV} {d : Option Nat} {os : List AOper} : callK P 0 (.yl id) args d os fs Q s = YCall P id args s.H s.N (afterK P d os fs Q s) := rfl
theorem rndB_n {o ob : AObj} {od : AExit → AObj} {id : Nat} {Q1 : AV → AHeap → Nat → Prop} : rndB o ob od id Q1 .normal s = (s.H id = some ob ∧ Q1 (.lit (.bool true)) (s.H.set id o) s.N) := rfl
theorem rndB_e {o ob : AObj} {od : AExit → AObj} {id i : Nat} {Q1 : AV → AHeap → Nat → Prop} : rndB o ob od id Q1 (.exit i) s = (s.H id = some ob ∧ Q1 (.lit (.bool false)) (s.H.set id (od (.exit i))) s.N) := rfl
theorem rndB_r {o ob : AObj} {od : AExit → AObj} {id : Nat} {Q1 : AV → AHeap → Nat → Prop} : rndB o ob od id Q1 .ret s = (s.H id = some ob ∧ Q1 (.lit (.bool false)) (s.H.set id (od .ret)) s.N) := rfl
theorem rndA_n {o ob : AObj} {od : AExit → AObj} {id : Nat} {body : ACode} {Q1 : AV → AHeap → Nat → Prop} : rndA P o ob od id body Q1 .normal s = (s.H id = some o ∧ run P body [] (rndB o ob od id Q1) ⟨s.A, s.H.set id ob, s.N⟩) := by simp [rndA]
theorem putL_cons {A : Nat → AV} {p : Nat} {ps : List Nat} {a : AV} {as : List AV} : putL A (p :: ps) (a :: as) = putL (upA A p a) ps as := rfl
theorem putL_nil {A : Nat → AV} {as : List AV} : putL A [] as = A := by cases as <;> rfl
theorem ev_glob {g : Nat} : s.ev (.glob g) = gptr g := rfl
theorem runOps_kcall {d : Option Nat} {f : AX} {args : List AX} {os : List AOper} : runOps P (⟨d, .kcall f args, none⟩ :: os) fs Q s = callK P 1 (s.ev f) (args.map s.ev) d os fs Q s := rfl
theorem runOps_pcall {d : Option Nat} {f : AX} {args : List AX} {os : List AOper} : runOps P (⟨d, .pcall f args, none⟩ :: os) fs Q s = callK P 2 (s.ev f) (args.map s.ev) d os fs Q s := rfl
theorem runOps_val (x : AX) {d : Option Nat} {os : List AOper} : runOps P (⟨d, .val x, none⟩ :: os) fs Q s = thenK P (aop (.val x) s) d os fs Q s := rfl
theorem runOps_pick (c a b : AX) {d : Option Nat} {os : List AOper} : runOps P (⟨d, .pick c a b, none⟩ :: os) fs Q s = thenK P (aop (.pick c a b) s) d os fs Q s := rfl
theorem runOps_nilck (x : AX) {d : Option Nat} {os : List AOper} : runOps P (⟨d, .nilck x, none⟩ :: os) fs Q s = thenK P (aop (.nilck x) s) d os fs Q s := rfl
theorem runOps_bin (o : BinOp) (et : ET) (x y : AX) {d : Option Nat} {os : List AOper} : runOps P (⟨d, .bin o et x y, none⟩ :: os) fs Q s = thenK P (aop (.bin o et x y) s) d os fs Q s := rfl
theorem runOps_un (o : UnOp) (x : AX) {d : Option Nat} {os : List AOper} : runOps P (⟨d, .un o x, none⟩ :: os) fs Q s = thenK P (aop (.un o x) s) d os fs Q s := rfl
theorem runOps_conv (k : IntKind) (x : AX) {d : Option Nat} {os : List AOper} : runOps P (⟨d, .conv k x, none⟩ :: os) fs Q s = thenK P (aop (.conv k x) s) d os fs Q s := rfl
theorem runOps_extract (x : AX) (i : Nat) {d : Option Nat} {os : List AOper} : runOps P (⟨d, .extract x i, none⟩ :: os) fs Q s = thenK P (aop (.extract x i) s) d os fs Q s := rfl
theorem runOps_field (off sz : Nat) (ag : Bool) (x : AX) {d : Option Nat} {os : List AOper} : runOps P (⟨d, .field off sz ag x, none⟩ :: os) fs Q s = thenK P (aop (.field off sz ag x) s) d os fs Q s := rfl
theorem runOps_fieldAddr (off : Nat) (x : AX) {d : Option Nat} {os : List AOper} : runOps P (⟨d, .fieldAddr off x, none⟩ :: os) fs Q s = thenK P (aop (.fieldAddr off x) s) d os fs Q s := rfl
theorem runOps_indexAddr (sz : Nat) (x i : AX) {d : Option Nat} {os : List AOper} : runOps P (⟨d, .indexAddr sz x i, none⟩ :: os) fs Q s = thenK P (aop (.indexAddr sz x i) s) d os fs Q s := rfl
theorem runOps_indexStr (x i : AX) {d : Option Nat} {os : List AOper} : runOps P (⟨d, .indexStr x i, none⟩ :: os) fs Q s = thenK P (aop (.indexStr x i) s) d os fs Q s := rfl
theorem runOps_slice (sz : Nat) (x : AX) (lo hi mx : Option AX) {d : Option Nat} {os : List AOper} : runOps P (⟨d, .slice sz x lo hi mx, none⟩ :: os) fs Q s = thenK P (aop (.slice sz x lo hi mx) s) d os fs Q s := rfl
theorem runOps_sliceStr (x : AX) (lo hi : Option AX) {d : Option Nat} {os : List AOper} : runOps P (⟨d, .sliceStr x lo hi, none⟩ :: os) fs Q s = thenK P (aop (.sliceStr x lo hi) s) d os fs Q s := rfl
theorem runOps_len (k : Nat) (x : AX) {d : Option Nat} {os : List AOper} : runOps P (⟨d, .len k x, none⟩ :: os) fs Q s = thenK P (aop (.len k x) s) d os fs Q s := rfl
theorem runOps_mkifc (t : TypeId) (x : AX) {d : Option Nat} {os : List AOper} : runOps P (⟨d, .mkifc t x, none⟩ :: os) fs Q s = thenK P (aop (.mkifc t x) s) d os fs Q s := rfl
theorem runOps_mkfn (f : Fn) (a b : List AX) {d : Option Nat} {os : List AOper} : runOps P (⟨d, .mkfn f a b, none⟩ :: os) fs Q s = thenK P (aop (.mkfn f a b) s) d os fs Q s := rfl
theorem runOps_build (zs : List AV) (ps : List (Nat × Nat × AX)) {d : Option Nat} {os : List AOper} : runOps P (⟨d, .build zs ps, none⟩ :: os) fs Q s = thenK P (aop (.build zs ps) s) d os fs Q s := rfl
theorem runOps_bslice (mu : Bool) (sz n : Nat) (zs : List AV) (ps : List (Nat × Nat × AX)) {d : Option Nat} {os : List AOper} : runOps P (⟨d, .bslice mu sz n zs ps, none⟩ :: os) fs Q s = thenK P (aop (.bslice mu sz n zs ps) s) d os fs Q s := rfl
theorem runOps_load (ag : Bool) (sz : Nat) (x : AX) {d : Option Nat} {os : List AOper} : runOps P (⟨d, .load ag sz x, none⟩ :: os) fs Q s = thenK P (aop (.load ag sz x) s) d os fs Q s := rfl
theorem runOps_store (sz : Nat) (x v : AX) {d : Option Nat} {os : List AOper} : runOps P (⟨d, .store sz x v, none⟩ :: os) fs Q s = thenK P (aop (.store sz x v) s) d os fs Q s := rfl
theorem runOps_alloc (cs : List AV) {d : Option Nat} {os : List AOper} : runOps P (⟨d, .alloc cs, none⟩ :: os) fs Q s = thenK P (aop (.alloc cs) s) d os fs Q s := rfl
theorem runOps_box (fz : Bool) (v : AX) {d : Option Nat} {os : List AOper} : runOps P (⟨d, .box fz v, none⟩ :: os) fs Q s = thenK P (aop (.box fz v) s) d os fs Q s := rfl
theorem runOps_mkslice (sz bytes : Nat) (zs : List AV) (l c : AX) {d : Option Nat} {os : List AOper} : runOps P (⟨d, .mkslice sz bytes zs l c, none⟩ :: os) fs Q s = thenK P (aop (.mkslice sz bytes zs l c) s) d os fs Q s := rfl
theorem runOps_sappend (sz bytes : Nat) (b x y : AX) {d : Option Nat} {os : List AOper} : runOps P (⟨d, .sappend sz bytes b x y, none⟩ :: os) fs Q s = thenK P (aop (.sappend sz bytes b x y) s) d os fs Q s := rfl
theorem runOps_kalloc (cs : List AV) {d : Option Nat} {os : List AOper} : runOps P (⟨d, .kalloc cs, none⟩ :: os) fs Q s = thenK P (aop (.kalloc cs) s) d os fs Q s := rfl
theorem runOps_fappend (sz bytes : Nat) (x y : AX) {d : Option Nat} {os : List AOper} : runOps P (⟨d, .fappend sz bytes x y, none⟩ :: os) fs Q s = thenK P (aop (.fappend sz bytes x y) s) d os fs Q s := rfl
theorem runOps_kappend (sz bytes : Nat) (x y : AX) {d : Option Nat} {os : List AOper} : runOps P (⟨d, .kappend sz bytes x y, none⟩ :: os) fs Q s = thenK P (aop (.kappend sz bytes x y) s) d os fs Q s := rfl
theorem runOps_mm3 (mx : Bool) (x y z : AX) {d : Option Nat} {os : List AOper} : runOps P (⟨d, .mm3 mx x y z, none⟩ :: os) fs Q s = thenK P (aop (.mm3 mx x y z) s) d os fs Q s := rfl
theorem runOps_bstr (x : AX) {d : Option Nat} {os : List AOper} : runOps P (⟨d, .bstr x, none⟩ :: os) fs Q s = thenK P (aop (.bstr x) s) d os fs Q s := rfl
theorem runOps_append (fz : Bool) (sz bytes : Nat) (x y : AX) {d : Option Nat} {os : List AOper} : runOps P (⟨d, .append fz sz bytes x y, none⟩ :: os) fs Q s = thenK P (aop (.append fz sz bytes x y) s) d os fs Q s := rfl
theorem runOps_mkmap  {d : Option Nat} {os : List AOper} : runOps P (⟨d, .mkmap, none⟩ :: os) fs Q s = thenK P (aop .mkmap s) d os fs Q s := rfl
theorem runOps_lookup (kd : Nat) (zero : AV) (ok : Bool) (m k : AX) {d : Option Nat} {os : List AOper} : runOps P (⟨d, .lookup kd zero ok m k, none⟩ :: os) fs Q s = thenK P (aop (.lookup kd zero ok m k) s) d os fs Q s := rfl
theorem runOps_mapset (kd : Nat) (m k v : AX) {d : Option Nat} {os : List AOper} : runOps P (⟨d, .mapset kd m k v, none⟩ :: os) fs Q s = thenK P (aop (.mapset kd m k v) s) d os fs Q s := rfl
theorem runOps_delete (kd : Nat) (m k : AX) {d : Option Nat} {os : List AOper} : runOps P (⟨d, .delete kd m k, none⟩ :: os) fs Q s = thenK P (aop (.delete kd m k) s) d os fs Q s := rfl
theorem runOps_lenm (x : AX) {d : Option Nat} {os : List AOper} : runOps P (⟨d, .lenm x, none⟩ :: os) fs Q s = thenK P (aop (.lenm x) s) d os fs Q s := rfl
theorem runOps_copy (sz : Nat) (x y : AX) {d : Option Nat} {os : List AOper} : runOps P (⟨d, .copy sz x y, none⟩ :: os) fs Q s = thenK P (aop (.copy sz x y) s) d os fs Q s := rfl
theorem runOps_mm2 (mx : Bool) (x y : AX) {d : Option Nat} {os : List AOper} : runOps P (⟨d, .mm2 mx x y, none⟩ :: os) fs Q s = thenK P (aop (.mm2 mx x y) s) d os fs Q s := rfl
theorem runOps_indexA (ag : Bool) (sz len : Nat) (x i : AX) {d : Option Nat} {os : List AOper} : runOps P (⟨d, .indexA ag sz len x i, none⟩ :: os) fs Q s = thenK P (aop (.indexA ag sz len x i) s) d os fs Q s := rfl
theorem runOps_indexP (sz len : Nat) (x i : AX) {d : Option Nat} {os : List AOper} : runOps P (⟨d, .indexP sz len x i, none⟩ :: os) fs Q s = thenK P (aop (.indexP sz len x i) s) d os fs Q s := rfl
theorem runOps_sliceA (sz n : Nat) (x : AX) (lo hi : Option AX) {d : Option Nat} {os : List AOper} : runOps P (⟨d, .sliceA sz n x lo hi, none⟩ :: os) fs Q s = thenK P (aop (.sliceA sz n x lo hi) s) d os fs Q s := rfl
theorem runOps_eqS (ne : Bool) (l : List (Nat × Nat)) (x y : AX) {d : Option Nat} {os : List AOper} : runOps P (⟨d, .eqS ne l x y, none⟩ :: os) fs Q s = thenK P (aop (.eqS ne l x y) s) d os fs Q s := rfl
theorem runOps_clearS (sz : Nat) (zs : List AV) (x : AX) {d : Option Nat} {os : List AOper} : runOps P (⟨d, .clearS sz zs x, none⟩ :: os) fs Q s = thenK P (aop (.clearS sz zs x) s) d os fs Q s := rfl
theorem runOps_iload (ag : Bool) (sz : Nat) (x : AX) {d : Option Nat} {os : List AOper} : runOps P (⟨d, .iload ag sz x, none⟩ :: os) fs Q s = thenK P (aop (.iload ag sz x) s) d os fs Q s := rfl

/-- What a loop's round must come to. -/
def loopQ (P : Program) (J : Nat → St → Prop) (n : Nat) (fs : List Fr) (Q : Post) : Post := fun x s => match x with
  | .normal => ∃ m, m < n ∧ J m s
  | .exit i => onward P fs Q (.exit i) s
  | .ret => onward P fs Q .ret s
theorem loopQ_n {J : Nat → St → Prop} {n : Nat} : loopQ P J n fs Q .normal s = ∃ m, m < n ∧ J m s := rfl
theorem loopQ_e {J : Nat → St → Prop} {n i : Nat} : loopQ P J n fs Q (.exit i) s = onward P fs Q (.exit i) s := rfl
theorem loopQ_r {J : Nat → St → Prop} {n : Nat} : loopQ P J n fs Q .ret s = onward P fs Q .ret s := rfl

theorem run_loop {a : ACode} (J : Nat → St → Prop) (n : Nat) (h0 : J n s) (h : ∀ n A H N, J n ⟨A, H, N⟩ → run P a [] (loopQ P J n fs Q) ⟨A, H, N⟩) : run P (.loop a) fs Q s :=
  ⟨J, n, h0, fun n s' hs => by
    have := h n s'.A s'.H s'.N hs
    exact this⟩

/-- A region of which no order serves for all: what is known, whatever of it is done. -/
theorem run_draw {l : List (Nat × AOper × List Nat)} (Inv : (Nat → Bool) → St → Prop) (h0 : Inv (fun _ => false) s)
    (h : ∀ x ∈ l, ∀ L A H N, DrawAt l L x → Inv L ⟨A, H, N⟩ → runOps P [x.2.1] [] (fun _ => Inv (fun j => L j || j == x.1)) ⟨A, H, N⟩)
    (hd : ∀ L A H N, (∀ x ∈ l, L x.1 = true) → Inv L ⟨A, H, N⟩ → onward P fs Q .normal ⟨A, H, N⟩) : run P (.draw l) fs Q s :=
  ⟨Inv, h0, fun x hx L s' ha hi => h x hx L s'.A s'.H s'.N ha hi, fun L s' ha hi => hd L s'.A s'.H s'.N ha hi⟩

theorem ev_val {a : AV} : s.ev (.val a) = a := rfl
theorem ev_tmp {t : Nat} : s.ev (.tmp t) = s.A t := rfl
theorem put_some {A : Nat → AV} {H : AHeap} {N d : Nat} {v : AV} : St.put ⟨A, H, N⟩ (some d) v = ⟨upA A d v, H, N⟩ := rfl
theorem put_none {s : St} {v : AV} : s.put none v = s := rfl
theorem upd_some {A : Nat → AV} {H H' : AHeap} {N N' d : Nat} {v : AV} : St.upd ⟨A, H, N⟩ (some d) v H' N' = ⟨upA A d v, H', N'⟩ := rfl
theorem upd_none {A : Nat → AV} {H H' : AHeap} {N N' : Nat} {v : AV} : St.upd ⟨A, H, N⟩ none v H' N' = ⟨A, H', N'⟩ := rfl
theorem St0_eq {args : List AV} {H : AHeap} {N : Nat} : St0 args H N = ⟨argA args, H, N⟩ := rfl

/-- The end of a function. -/
def fin (l : List RV) (Q : AV → AHeap → Nat → Prop) : Post := fun x s => match x with
  | .exit _ => False
  | _ => ares l s (fun v => Q v s.H s.N)

/-- An answer. -/
def ansK (Q : AV → AHeap → Nat → Prop) (r : Option AV) (H : AHeap) (N : Nat) : Prop := match r with
  | some v => Q v H N
  | none => False
theorem ansK_some {Q : AV → AHeap → Nat → Prop} {v : AV} {H : AHeap} {N : Nat} : ansK Q (some v) H N = Q v H N := rfl
def rvs (l : List RV) (s : St) : Option AV := match l with
  | [r] => r.get s
  | l => (l.mapM (RV.get s)).map .tup
theorem fin_eq {l : List RV} {Q : AV → AHeap → Nat → Prop} {x : AExit} (h : x = .ret ∨ x = .normal) : fin l Q x s = ansK Q (rvs l s) s.H s.N := by
  have key : ares l s (fun v => Q v s.H s.N) = ansK Q (rvs l s) s.H s.N := by
    match l with
    | [] => rfl
    | [r] => first | (simp only [ares, rvs, ansK]; done) | (simp only [ares, rvs, ansK]; cases r.get s <;> rfl)
    | r :: q :: l => first | (simp only [ares, rvs, ansK]; done) | (simp only [ares, rvs, ansK]; cases List.mapM (RV.get s) (r :: q :: l) <;> rfl)
  rcases h with rfl | rfl <;> exact key
theorem fin_r {l : List RV} {Q : AV → AHeap → Nat → Prop} : fin l Q .ret s = ansK Q (rvs l s) s.H s.N := fin_eq (.inl rfl)
theorem fin_n {l : List RV} {Q : AV → AHeap → Nat → Prop} : fin l Q .normal s = ansK Q (rvs l s) s.H s.N := fin_eq (.inr rfl)
theorem fin_r0 {Q : AV → AHeap → Nat → Prop} {A : Nat → AV} {H : AHeap} {N : Nat} : fin [] Q .ret ⟨A, H, N⟩ = Q (.tup []) H N := rfl
theorem fin_r1 {Q : AV → AHeap → Nat → Prop} {A : Nat → AV} {H : AHeap} {N a : Nat} : fin [.tmp a] Q .ret ⟨A, H, N⟩ = Q (A a) H N := rfl
theorem fin_r2 {Q : AV → AHeap → Nat → Prop} {A : Nat → AV} {H : AHeap} {N a b : Nat} : fin [.tmp a, .tmp b] Q .ret ⟨A, H, N⟩ = Q (.tup [A a, A b]) H N := rfl
theorem fin_r3 {Q : AV → AHeap → Nat → Prop} {A : Nat → AV} {H : AHeap} {N a b c : Nat} : fin [.tmp a, .tmp b, .tmp c] Q .ret ⟨A, H, N⟩ = Q (.tup [A a, A b, A c]) H N := rfl
theorem fin_rc {Q : AV → AHeap → Nat → Prop} {A : Nat → AV} {H : AHeap} {N a sz : Nat} {ag : Bool} : fin [.cell a sz ag] Q .ret ⟨A, H, N⟩ = ansK Q (aload H ag sz (A a)) H N := rfl
theorem fin_rct {Q : AV → AHeap → Nat → Prop} {A : Nat → AV} {H : AHeap} {N a b sz : Nat} {ag : Bool} : fin [.cell a sz ag, .tmp b] Q .ret ⟨A, H, N⟩ = ansK Q ((aload H ag sz (A a)).map fun v => .tup [v, A b]) H N := by
  rw [fin_r]; cases h : aload H ag sz (A a) <;> simp [rvs, RV.get, h]
theorem fin_rtc {Q : AV → AHeap → Nat → Prop} {A : Nat → AV} {H : AHeap} {N a b sz : Nat} {ag : Bool} : fin [.tmp b, .cell a sz ag] Q .ret ⟨A, H, N⟩ = ansK Q ((aload H ag sz (A a)).map fun v => .tup [A b, v]) H N := by
  rw [fin_r]; cases h : aload H ag sz (A a) <;> simp [rvs, RV.get, h]
theorem fin_n0 {Q : AV → AHeap → Nat → Prop} {A : Nat → AV} {H : AHeap} {N : Nat} : fin [] Q .normal ⟨A, H, N⟩ = Q (.tup []) H N := rfl
theorem fin_n1 {Q : AV → AHeap → Nat → Prop} {A : Nat → AV} {H : AHeap} {N a : Nat} : fin [.tmp a] Q .normal ⟨A, H, N⟩ = Q (A a) H N := rfl
theorem fin_n2 {Q : AV → AHeap → Nat → Prop} {A : Nat → AV} {H : AHeap} {N a b : Nat} : fin [.tmp a, .tmp b] Q .normal ⟨A, H, N⟩ = Q (.tup [A a, A b]) H N := rfl
theorem fin_n3 {Q : AV → AHeap → Nat → Prop} {A : Nat → AV} {H : AHeap} {N a b c : Nat} : fin [.tmp a, .tmp b, .tmp c] Q .normal ⟨A, H, N⟩ = Q (.tup [A a, A b, A c]) H N := rfl
theorem fin_nc {Q : AV → AHeap → Nat → Prop} {A : Nat → AV} {H : AHeap} {N a sz : Nat} {ag : Bool} : fin [.cell a sz ag] Q .normal ⟨A, H, N⟩ = ansK Q (aload H ag sz (A a)) H N := rfl

theorem acall (hm : P.follows .mixedOrders = true) {f : FuncId} {An : Ann} {ac : ACode} {l : List RV} {nt : Nat} (hc : codeOf P An f = some (ac, l, nt))
    {args : List AV} (hle : args.length ≤ nt) {H : AHeap} {N : Nat} {Q : AV → AHeap → Nat → Prop} (h : run P ac [] (fin l Q) ⟨argA args, H, N⟩) : ACall P f args H N Q := by
  refine acall_awp hm hc hle ?_
  have : (fun x s => match x with | .exit _ => False | _ => ares l s (fun v => Q v s.H s.N)) = fin l Q := by
    funext x s
    cases x <;> rfl
  rw [this]
  exact h
end

attribute [simp ↓] run_range rndB_n rndB_e rndB_r rndA_n putL_cons putL_nil runOps_indexA runOps_indexP runOps_sliceA runOps_eqS runOps_clearS ev_glob fin_r0 fin_r1 fin_r2 fin_r3 fin_rc fin_rct fin_rtc fin_n0 fin_n1 fin_n2 fin_n3 fin_nc
attribute [simp ↓] run_skip run_ops run_seq run_block run_exit run_ret run_cond onward_nil onward_seq_n onward_seq_e onward_seq_r onward_blk_n onward_blk_e onward_blk_r runOps_nil afterK_eq afterKK_eq runOps_guarded runOps_call runOps_kcall runOps_pcall
attribute [simp ↓] runOps_val runOps_pick runOps_nilck runOps_bin runOps_un runOps_conv runOps_extract runOps_field runOps_fieldAddr runOps_indexAddr runOps_indexStr runOps_slice runOps_sliceStr runOps_len runOps_mkifc runOps_mkfn runOps_build runOps_bslice runOps_load runOps_store runOps_alloc runOps_box runOps_mkslice runOps_append runOps_sappend runOps_fappend runOps_kalloc runOps_kappend runOps_mm3 runOps_bstr runOps_mkmap runOps_lookup runOps_mapset runOps_delete runOps_lenm runOps_copy runOps_mm2 runOps_iload
attribute [simp ↓] ev_val ev_tmp put_some put_none upd_some upd_none St0_eq upA_at argA_at loopQ_n loopQ_e loopQ_r
theorem set_at {H : AHeap} {id i : Nat} {o : AObj} : (H.set id o) i = if i = id then some o else H i := rfl
theorem set_set {H : AHeap} {id : Nat} {a b : AObj} : (H.set id a).set id b = H.set id b := by
  funext i
  simp only [AHeap.set]
  split <;> rfl

theorem splice_one {off : Nat} {c : AV} {cs : List AV} : splice off [c] cs = cs.set off c := rfl

attribute [simp] set_at set_set splice_one astore afill chunks asrc Value.oneCell' anil aidxs noHeap_or set_or
attribute [simp] ansK_some callK_y eqsV aeqs aindexA aindexP
attribute [simp] thenK_some condK_true condK_false guardK_true guardK_tf guardK_ft guardK_false guardK_undef guardK_tuple callK_0 callK_1
attribute [simp] aop abin ibin ibin2 aun aload AV.cells afield apart alookup alook amapset amapdel afind keq akind alen alenm amm

end Go.Fw
