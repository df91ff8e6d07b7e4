/- Framework, part 14: regions that draw their order. -/
import Derived.Test.YtmgmgeijfkcglaaG4
namespace Go.Fw
set_option linter.unusedSimpArgs false
set_option linter.unusedVariables false
open Go
set_option linter.unusedSectionVars false
variable [Globals]

def AOp.axs : AOp → List AX
  | .val x => [x]
  | .pick c a b => [c, a, b]
  | .nilck x => [x]
  | .bin _ _ x y => [x, y]
  | .un _ x => [x]
  | .conv _ x => [x]
  | .extract x _ => [x]
  | .field _ _ _ x => [x]
  | .fieldAddr _ x => [x]
  | .indexAddr _ x i => [x, i]
  | .indexStr x i => [x, i]
  | .slice _ x lo hi mx => x :: (lo.toList ++ hi.toList ++ mx.toList)
  | .sliceStr x lo hi => x :: (lo.toList ++ hi.toList)
  | .len _ x => [x]
  | .mkifc _ x => [x]
  | .mkfn _ first capt => first ++ capt
  | .build _ parts => parts.map (·.2.2)
  | .bslice _ _ _ _ parts => parts.map (·.2.2)
  | .load _ _ x => [x]
  | .store _ x v => [x, v]
  | .alloc _ => []
  | .box _ v => [v]
  | .mkslice _ _ _ l c => [l, c]
  | .append _ _ _ x y => [x, y]
  | .sappend _ _ b x y => [b, x, y]
  | .kappend _ _ x y => [x, y]
  | .mkmap => []
  | .lookup _ _ _ m k => [m, k]
  | .mapset _ m k v => [m, k, v]
  | .delete _ m k => [m, k]
  | .lenm x => [x]
  | .copy _ x y => [x, y]
  | .mm2 _ x y => [x, y]
  | .mm3 _ x y z => [x, y, z]
  | .iload _ _ x => [x]
  | .call f args => f :: args
  | .pcall f args => f :: args
  | .kcall f args => f :: args
  | .indexA _ _ _ x i => [x, i]
  | .indexP _ _ x i => [x, i]
  | .sliceA _ _ x lo hi => x :: (lo.toList ++ hi.toList)
  | .eqS _ _ x y => [x, y]
  | .clearS _ _ x => [x]
  | .bad => []

/-- 0: it hangs on its operands alone; 1: it reads; 2: it does more. -/
def AOp.cls : AOp → Nat
  | .load _ _ _ => 1
  | .bslice mu _ _ _ _ => if mu = true then 2 else 0
  | .lookup _ _ _ _ _ => 1
  | .lenm _ => 1
  | .store _ _ _ => 2
  | .alloc _ => 2
  | .box fz _ => if fz = true then 0 else 2
  | .mkslice _ _ _ _ _ => 2
  | .append _ _ _ _ _ => 2
  | .sappend _ _ _ _ _ => 2
  | .kappend _ _ _ _ => 2
  | .mkmap => 2
  | .copy _ _ _ => 2
  | .mapset _ _ _ _ => 2
  | .delete _ _ _ => 2
  | .call _ _ => 2
  | .kcall _ _ => 2
  | .sliceA _ _ _ _ _ => 1
  | .clearS _ _ _ => 2
  | .bad => 2
  | _ => 0

/-- Does it leave all objects as they were? -/
def AOp.keeps : AOp → Bool
  | .kcall _ _ => true
  | .kappend _ _ _ _ => true
  | o => decide (o.cls ≤ 1)

theorem keeps_of_cls {o : AOp} (h : o.cls ≤ 1) : o.keeps = true := by
  cases o <;> first | exact decide_eq_true h | rfl

def AX.tmps : AX → List Nat
  | .tmp t => [t]
  | .val _ => []
  | .glob _ => []

def AOper.looks (o : AOper) : List Nat := o.op.axs.flatMap AX.tmps ++ (match o.guard with | some (t, _) => [t] | none => [])

/-- Two states that an operation cannot tell apart. -/
def Agree (s s' : St) (l : List Nat) : Prop := ∀ t ∈ l, s'.A t = s.A t

theorem ev_agree {s s' : St} {l : List AX} (h : Agree s s' (l.flatMap AX.tmps)) {x : AX} (hx : x ∈ l) : s'.ev x = s.ev x := by
  cases x with
  | tmp t => exact h t (List.mem_flatMap.2 ⟨_, hx, by simp [AX.tmps]⟩)
  | val a => rfl
  | glob g => rfl

theorem evO_agree {s s' : St} {l : List AX} (h : Agree s s' (l.flatMap AX.tmps)) {x : Option AX} (hx : ∀ y, x = some y → y ∈ l) : x.map s'.ev = x.map s.ev := by
  cases x with
  | none => rfl
  | some y => simp [ev_agree h (hx y rfl)]

theorem evs_agree {s s' : St} {l : List AX} (h : Agree s s' (l.flatMap AX.tmps)) {r : List AX} (hx : ∀ y ∈ r, y ∈ l) : r.map s'.ev = r.map s.ev :=
  List.map_congr_left fun y hy => ev_agree h (hx y hy)

theorem parts_agree {s s' : St} {l : List AX} (h : Agree s s' (l.flatMap AX.tmps)) {r : List (Nat × Nat × AX)} (hx : ∀ y ∈ r, y.2.2 ∈ l) :
    r.map (fun x => (x.1, x.2.1, s'.ev x.2.2)) = r.map (fun x => (x.1, x.2.1, s.ev x.2.2)) :=
  List.map_congr_left fun y hy => by rw [ev_agree h (hx y hy)]

/-- An operation that leaves the heap alone. -/
theorem aop_quiet {op : AOp} (hc : op.cls ≤ 1) {s : St} {v : AV} {H' : AHeap} {N' : Nat} (h : aop op s = some (v, H', N')) : H' = s.H ∧ N' = s.N := by
  cases op <;> simp only [aop, AOp.cls] at h hc <;> first
    | (simp only [Option.map_eq_some_iff, Prod.mk.injEq, Option.some.injEq] at h; (first | (obtain ⟨_, _, _, rfl, rfl⟩ := h; exact ⟨rfl, rfl⟩) | (obtain ⟨_, rfl, rfl⟩ := h; exact ⟨rfl, rfl⟩)); done)
    | (exfalso; omega)
    | (cases h; done)
    | skip
  case pick =>
    split at h
    · simp only [Option.some.injEq, Prod.mk.injEq] at h; obtain ⟨_, rfl, rfl⟩ := h; exact ⟨rfl, rfl⟩
    · cases h
  case conv =>
    split at h
    · simp only [Option.some.injEq, Prod.mk.injEq] at h; obtain ⟨_, rfl, rfl⟩ := h; exact ⟨rfl, rfl⟩
    · cases h
  case extract =>
    split at h
    · simp only [Option.map_eq_some_iff, Prod.mk.injEq] at h; obtain ⟨_, _, _, rfl, rfl⟩ := h; exact ⟨rfl, rfl⟩
    · cases h
  case field =>
    split at h
    · simp only [Option.map_eq_some_iff, Prod.mk.injEq] at h; obtain ⟨_, _, _, rfl, rfl⟩ := h; exact ⟨rfl, rfl⟩
    · cases h
  case box fz x =>
    cases fz with
    | false => simp at hc
    | true =>
      simp only [Option.map_eq_some_iff, if_true, Prod.mk.injEq] at h
      obtain ⟨_, _, _, rfl, rfl⟩ := h
      exact ⟨rfl, rfl⟩
  case lookup =>
    split at h
    · simp only [Option.map_eq_some_iff, Prod.mk.injEq] at h; obtain ⟨_, _, _, rfl, rfl⟩ := h; exact ⟨rfl, rfl⟩
    · cases h
  case bslice =>
    split at h
    · split at h
      · rename_i hm; rw [if_pos hm] at hc; omega
      · simp only [Option.some.injEq, Prod.mk.injEq] at h; obtain ⟨_, rfl, rfl⟩ := h; exact ⟨rfl, rfl⟩
    · cases h

theorem aload_keeps {H H' : AHeap} (hk : Keeps H H') {ag : Bool} {sz : Nat} {x r : AV} (h : aload H ag sz x = some r) : aload H' ag sz x = some r := by
  unfold aload at h ⊢
  split at h
  · exact h
  · split at h
    · rename_i hid
      simp only [hk _ _ hid]
      exact h
    · cases h
  · cases h

theorem alookup_keeps {H H' : AHeap} (hk : Keeps H H') {z : AV} {ok : Bool} {m k r : AV} (h : alookup z ok H m k = some r) : alookup z ok H' m k = some r := by
  unfold alookup at h ⊢
  simp only [Option.map_eq_some_iff] at h ⊢
  obtain ⟨x, h1, h2⟩ := h
  refine ⟨x, ?_, h2⟩
  unfold alook at h1 ⊢
  split at h1
  · exact h1
  · split at h1
    · rename_i hid
      simp only [hk _ _ hid]
      exact h1
    · cases h1
  · cases h1

theorem alenm_keeps {H H' : AHeap} (hk : Keeps H H') {x : AV} {r : Int} (h : alenm H x = some r) : alenm H' x = some r := by
  unfold alenm at h ⊢
  split at h
  · exact h
  · split at h
    · rename_i hid
      simp only [hk _ _ hid]
      exact h
    · cases h
  · cases h

theorem asliceA_keeps {H H' : AHeap} (hk : Keeps H H') {sz n : Nat} {x r : AV} {lo hi : Option AV} (h : asliceA H sz n x lo hi = some r) : asliceA H' sz n x lo hi = some r := by
  unfold asliceA at h ⊢
  split at h
  · split at h
    · rename_i hc
      rw [if_pos hc]
      split at h
      · exact h
      · split at h
        · rename_i hid
          simp only [hk _ _ hid]
          exact h
        · cases h
      · cases h
    · cases h
  · cases h

/-- What an operation that leaves the heap alone yields, elsewhere. -/
theorem aop_agree {op : AOp} {s s' : St} (hag : Agree s s' (op.axs.flatMap AX.tmps)) {v : AV} (hc : op.cls = 0 ∨ (op.cls ≤ 1 ∧ Keeps s.H s'.H))
    (h : aop op s = some (v, s.H, s.N)) : aop op s' = some (v, s'.H, s'.N) := by
  have e1 : ∀ x ∈ op.axs, s'.ev x = s.ev x := fun x hx => ev_agree hag hx
  have eO : ∀ x : Option AX, (∀ y, x = some y → y ∈ op.axs) → x.map s'.ev = x.map s.ev := fun x hx => evO_agree hag hx
  have eL : ∀ r : List AX, (∀ y ∈ r, y ∈ op.axs) → r.map s'.ev = r.map s.ev := fun x hx => evs_agree hag hx
  have eP : ∀ r : List (Nat × Nat × AX), (∀ y ∈ r, y.2.2 ∈ op.axs) → r.map (fun x => (x.1, x.2.1, s'.ev x.2.2)) = r.map (fun x => (x.1, x.2.1, s.ev x.2.2)) := fun x hx => parts_agree hag hx
  have two : ∀ (r : Option AV), r.map (fun v => (v, s.H, s.N)) = some (v, s.H, s.N) → r.map (fun v => (v, s'.H, s'.N)) = some (v, s'.H, s'.N) := fun r hr => by
    simp only [Option.map_eq_some_iff, Prod.mk.injEq] at hr ⊢
    obtain ⟨x, hx, rfl, _, _⟩ := hr
    exact ⟨x, hx, by simp⟩
  cases op <;> simp only [AOp.cls] at hc <;> simp only [aop] at h ⊢
  case val x => rw [e1 x (by simp [AOp.axs])]; simpa using h
  case pick c a b =>
    rw [e1 c (by simp [AOp.axs]), e1 a (by simp [AOp.axs]), e1 b (by simp [AOp.axs])]
    split at h <;> simp at h ⊢
    exact h
  case nilck x => rw [e1 x (by simp [AOp.axs])]; exact two _ h
  case bin op et x y => rw [e1 x (by simp [AOp.axs]), e1 y (by simp [AOp.axs])]; exact two _ h
  case un op x => rw [e1 x (by simp [AOp.axs])]; exact two _ h
  case conv k x =>
    rw [e1 x (by simp [AOp.axs])]
    split at h <;> simp at h ⊢
    exact h
  case extract x i =>
    rw [e1 x (by simp [AOp.axs])]
    split at h
    · exact two _ h
    · cases h
  case field off sz ag x =>
    rw [e1 x (by simp [AOp.axs])]
    split at h
    · exact two _ h
    · cases h
  case fieldAddr off x => rw [e1 x (by simp [AOp.axs])]; exact two _ h
  case indexAddr sz x i => rw [e1 x (by simp [AOp.axs]), e1 i (by simp [AOp.axs])]; exact two _ h
  case indexStr x i => rw [e1 x (by simp [AOp.axs]), e1 i (by simp [AOp.axs])]; exact two _ h
  case mm2 mx x i => rw [e1 x (by simp [AOp.axs]), e1 i (by simp [AOp.axs])]; exact two _ h
  case mm3 mx x y z => rw [e1 x (by simp [AOp.axs]), e1 y (by simp [AOp.axs]), e1 z (by simp [AOp.axs])]; exact two _ h
  case iload ag sz x => rw [e1 x (by simp [AOp.axs])]; exact two _ h
  case indexA ag sz len x i => rw [e1 x (by simp [AOp.axs]), e1 i (by simp [AOp.axs])]; exact two _ h
  case indexP sz len x i => rw [e1 x (by simp [AOp.axs]), e1 i (by simp [AOp.axs])]; exact two _ h
  case eqS ne l x y => rw [e1 x (by simp [AOp.axs]), e1 y (by simp [AOp.axs])]; exact two _ h
  case sliceA sz n x lo hi =>
    rcases hc with hc | ⟨_, hH⟩
    · omega
    · rw [e1 x (by simp [AOp.axs]), eO lo (fun y hy => by subst hy; simp [AOp.axs]), eO hi (fun y hy => by subst hy; simp [AOp.axs])]
      simp only [Option.map_eq_some_iff, Prod.mk.injEq] at h ⊢
      obtain ⟨y, hy, rfl, _, _⟩ := h
      exact ⟨y, asliceA_keeps hH hy, by simp⟩
  case slice sz x lo hi mx =>
    rw [e1 x (by simp [AOp.axs]), eO lo (fun y hy => by subst hy; simp [AOp.axs]), eO hi (fun y hy => by subst hy; simp [AOp.axs]), eO mx (fun y hy => by subst hy; simp [AOp.axs])]
    exact two _ h
  case sliceStr x lo hi =>
    rw [e1 x (by simp [AOp.axs]), eO lo (fun y hy => by subst hy; simp [AOp.axs]), eO hi (fun y hy => by subst hy; simp [AOp.axs])]
    exact two _ h
  case len k x => rw [e1 x (by simp [AOp.axs])]; exact two _ h
  case mkifc t x => rw [e1 x (by simp [AOp.axs])]; simpa using h
  case mkfn f first capt =>
    rw [eL first (fun y hy => by simp [AOp.axs, hy]), eL capt (fun y hy => by simp [AOp.axs, hy])]
    simpa using h
  case build zs parts =>
    rw [eP parts (fun y hy => by simp only [AOp.axs, List.mem_map]; exact ⟨y, hy, rfl⟩)]
    exact two _ h
  case bslice mu sz n zs parts =>
    rw [eP parts (fun y hy => by simp only [AOp.axs, List.mem_map]; exact ⟨y, hy, rfl⟩)]
    cases mu with
    | true => simp at hc
    | false =>
      split at h
      · rename_i cs hcs
        simp at h
        simp [h]
      · cases h
  case load ag sz x =>
    rcases hc with hc | ⟨_, hH⟩
    · omega
    · rw [e1 x (by simp [AOp.axs])]
      simp only [Option.map_eq_some_iff, Prod.mk.injEq] at h ⊢
      obtain ⟨y, hy, rfl, _, _⟩ := h
      exact ⟨y, aload_keeps hH hy, by simp⟩
  case box fz x =>
    rw [e1 x (by simp [AOp.axs])]
    cases fz with
    | false => simp at hc
    | true =>
      simp only [Option.map_eq_some_iff, if_true, Prod.mk.injEq] at h ⊢
      obtain ⟨cs, h1, h2, _, _⟩ := h
      exact ⟨cs, h1, h2, by simp⟩
  case lookup kd z ok m k =>
    rcases hc with hc | ⟨_, hH⟩
    · omega
    · rw [e1 m (by simp [AOp.axs]), e1 k (by simp [AOp.axs])]
      split at h
      · rename_i hak
        rw [if_pos hak]
        simp only [Option.map_eq_some_iff, Prod.mk.injEq] at h ⊢
        obtain ⟨y, hy, rfl, _, _⟩ := h
        exact ⟨y, alookup_keeps hH hy, by simp⟩
      · cases h
  case lenm x =>
    rcases hc with hc | ⟨_, hH⟩
    · omega
    · rw [e1 x (by simp [AOp.axs])]
      simp only [Option.map_eq_some_iff, Prod.mk.injEq] at h ⊢
      obtain ⟨y, ⟨m, hm, rfl⟩, rfl, _, _⟩ := h
      exact ⟨_, ⟨m, alenm_keeps hH hm, rfl⟩, by simp⟩
  all_goals first | (cases h; done) | (exfalso; omega)

section
variable {P : Program}

/-- What a quiet operation yields. -/
def QV (P : Program) (o : AOper) (s : St) (v : AV) : Prop :=
  match o.op with
  | .pcall f args => match s.ev f with
    | .fn (.func f) first capt => PCall P f (first ++ args.map s.ev ++ capt) v
    | _ => False
  | op => aop op s = some (v, s.H, s.N)

def QVg (P : Program) (o : AOper) (s : St) (v : AV) : Prop :=
  match o.guard with
  | none => QV P o s v
  | some g => (gate s (some g) = some true ∧ QV P o s v) ∨ (gate s (some g) = some false ∧ v = .lit undef)

theorem upd_same (s : St) (d : Option Nat) (v : AV) : s.upd d v s.H s.N = s.put d v := by cases d <;> rfl

/-- No call of any kind. -/
def AOp.plain : AOp → Bool
  | .call _ _ => false
  | .pcall _ _ => false
  | .kcall _ _ => false
  | _ => true

theorem op_cases (op : AOp) : (∃ f a, op = .call f a) ∨ (∃ f a, op = .pcall f a) ∨ (∃ f a, op = .kcall f a) ∨ op.plain = true := by
  cases op <;> first | exact .inl ⟨_, _, rfl⟩ | exact .inr (.inl ⟨_, _, rfl⟩) | exact .inr (.inr (.inl ⟨_, _, rfl⟩)) | exact .inr (.inr (.inr rfl))

theorem awpDo_call {o : AOper} {K : St → Prop} {s : St} {f : AX} {args : List AX} (h : o.op = .call f args) : awpDo P o K s = CallV P (s.ev f) (args.map s.ev) s.H s.N (fun r H' N' => K (s.upd o.dst r H' N')) := by obtain ⟨dst, op, g⟩ := o; simp only at h; subst h; rfl

theorem awpDo_pcall {o : AOper} {K : St → Prop} {s : St} {f : AX} {args : List AX} (h : o.op = .pcall f args) : awpDo P o K s = (match s.ev f with
    | .fn (.func f) first capt => ∃ r, PCall P f (first ++ args.map s.ev ++ capt) r ∧ K (s.put o.dst r)
    | _ => False) := by
  obtain ⟨dst, op, g⟩ := o; simp only at h; subst h; simp only [awpDo]
  cases s.ev f with
  | fn g a b => cases g <;> rfl
  | _ => rfl

theorem awpDo_kcall {o : AOper} {K : St → Prop} {s : St} {f : AX} {args : List AX} (h : o.op = .kcall f args) : awpDo P o K s = (match s.ev f with
    | .fn (.func f) first capt => ACall P f (first ++ args.map s.ev ++ capt) s.H s.N (fun r H' N' => Keeps s.H H' ∧ K (s.upd o.dst r H' N'))
    | _ => False) := by
  obtain ⟨dst, op, g⟩ := o; simp only at h; subst h; simp only [awpDo]
  cases s.ev f with
  | fn g a b => cases g <;> rfl
  | _ => rfl

theorem awpDo_op {o : AOper} {K : St → Prop} {s : St} (h1 : o.op.plain = true) : awpDo P o K s = (match aop o.op s with
    | some (v, H', N') => K (s.upd o.dst v H' N')
    | none => False) := by
  obtain ⟨dst, op, g⟩ := o
  unfold awpDo
  cases op <;> first | rfl | (simp [AOp.plain] at h1; done)

theorem QV_pcall {o : AOper} {s : St} {v : AV} {f : AX} {args : List AX} (h : o.op = .pcall f args) : QV P o s v = (match s.ev f with
    | .fn (.func f) first capt => PCall P f (first ++ args.map s.ev ++ capt) v
    | _ => False) := by unfold QV; rw [h]

theorem QV_op {o : AOper} {s : St} {v : AV} (h2 : o.op.plain = true) : QV P o s v = (aop o.op s = some (v, s.H, s.N)) := by
  obtain ⟨dst, op, g⟩ := o
  unfold QV
  cases op <;> first | rfl | (simp [AOp.plain] at h2; done)

theorem awpDo_quiet {o : AOper} (hc : o.op.cls ≤ 1) {K : St → Prop} {s : St} (h : awpDo P o K s) : ∃ v, QV P o s v ∧ K (s.put o.dst v) := by
  rcases op_cases o.op with ⟨f, a, hop⟩ | ⟨f, a, hop⟩ | ⟨f, a, hop⟩ | h2
  · rw [hop] at hc; simp [AOp.cls] at hc
  · rw [awpDo_pcall hop] at h
    simp only [QV_pcall hop]
    split at h
    · obtain ⟨r, h1, h2⟩ := h
      exact ⟨r, h1, h2⟩
    · exact h.elim
  · rw [hop] at hc; simp [AOp.cls] at hc
  · rw [awpDo_op h2] at h
    simp only [QV_op h2]
    split at h
    · rename_i v H' N' hop
      obtain ⟨h1, h2⟩ := aop_quiet hc hop
      subst h1; subst h2
      rw [upd_same] at h
      exact ⟨v, hop, h⟩
    · exact h.elim

theorem awpDo_of_qv {o : AOper} (hc : o.op.cls ≤ 1) {K : St → Prop} {s : St} {v : AV} (h : QV P o s v) (hk : K (s.put o.dst v)) : awpDo P o K s := by
  rcases op_cases o.op with ⟨f, a, hop⟩ | ⟨f, a, hop⟩ | ⟨f, a, hop⟩ | h2
  · rw [hop] at hc; simp [AOp.cls] at hc
  · rw [QV_pcall hop] at h
    rw [awpDo_pcall hop]
    split at h
    · exact ⟨v, h, hk⟩
    · exact h.elim
  · rw [hop] at hc; simp [AOp.cls] at hc
  · rw [QV_op h2] at h
    rw [awpDo_op h2, h]
    simp only
    rw [upd_same]
    exact hk

theorem awpOp_none {o : AOper} {K : St → Prop} {s : St} (h : o.guard = none) : awpOp P o K s = awpDo P o K s := by unfold awpOp; rw [h]
theorem awpOp_some {o : AOper} {K : St → Prop} {s : St} {g : Nat × Bool} (h : o.guard = some g) :
    awpOp P o K s = ∃ b, gate s (some g) = some b ∧ (b = true → awpDo P o K s) ∧ (b = false → K (s.put o.dst (.lit undef))) := by unfold awpOp; rw [h]
theorem QVg_none {o : AOper} {s : St} {v : AV} (h : o.guard = none) : QVg P o s v = QV P o s v := by unfold QVg; rw [h]
theorem QVg_some {o : AOper} {s : St} {v : AV} {g : Nat × Bool} (h : o.guard = some g) :
    QVg P o s v = ((gate s (some g) = some true ∧ QV P o s v) ∨ (gate s (some g) = some false ∧ v = .lit undef)) := by unfold QVg; rw [h]

theorem awpOp_quiet {o : AOper} (hc : o.op.cls ≤ 1) {K : St → Prop} {s : St} (h : awpOp P o K s) : ∃ v, QVg P o s v ∧ K (s.put o.dst v) := by
  cases hg : o.guard with
  | none => rw [awpOp_none hg] at h; simp only [QVg_none hg]; exact awpDo_quiet hc h
  | some g =>
    rw [awpOp_some hg] at h
    simp only [QVg_some hg]
    obtain ⟨b, h1, h2, h3⟩ := h
    cases b with
    | true => obtain ⟨v, h4, h5⟩ := awpDo_quiet hc (h2 rfl); exact ⟨v, .inl ⟨h1, h4⟩, h5⟩
    | false => exact ⟨_, .inr ⟨h1, rfl⟩, h3 rfl⟩

theorem awpOp_of_qvg {o : AOper} (hc : o.op.cls ≤ 1) {K : St → Prop} {s : St} {v : AV} (h : QVg P o s v) (hk : K (s.put o.dst v)) : awpOp P o K s := by
  cases hg : o.guard with
  | none => rw [QVg_none hg] at h; rw [awpOp_none hg]; exact awpDo_of_qv hc h hk
  | some g =>
    rw [QVg_some hg] at h
    rw [awpOp_some hg]
    rcases h with ⟨h1, h2⟩ | ⟨h1, rfl⟩
    · exact ⟨true, h1, fun _ => awpDo_of_qv hc h2 hk, (fun h => by cases h)⟩
    · exact ⟨false, h1, (fun h => by cases h), fun _ => hk⟩

theorem gate_agree {s s' : St} {g : Option (Nat × Bool)} (h : ∀ t w, g = some (t, w) → s'.A t = s.A t) : gate s' g = gate s g := by
  cases g with
  | none => rfl
  | some g =>
    obtain ⟨t, w⟩ := g
    unfold gate
    simp only
    rw [h t w rfl]

theorem QV.agree {o : AOper} {s s' : St} (hag : Agree s s' (o.op.axs.flatMap AX.tmps)) {v : AV} (hc : o.op.cls = 0 ∨ (o.op.cls ≤ 1 ∧ Keeps s.H s'.H)) (h : QV P o s v) : QV P o s' v := by
  rcases op_cases o.op with ⟨f, a, hop⟩ | ⟨f, a, hop⟩ | ⟨f, a, hop⟩ | h2
  · rw [hop] at hc; simp [AOp.cls] at hc
  · rw [QV_pcall hop] at h ⊢
    rw [hop] at hag
    rw [ev_agree hag (x := f) (by simp [AOp.axs]), evs_agree hag (r := a) (fun y hy => by simp [AOp.axs, hy])]
    exact h
  · rw [hop] at hc; simp [AOp.cls] at hc
  · rw [QV_op h2] at h ⊢
    exact aop_agree hag hc h

theorem QVg.agree {o : AOper} {s s' : St} (hag : Agree s s' o.looks) {v : AV} (hc : o.op.cls = 0 ∨ (o.op.cls ≤ 1 ∧ Keeps s.H s'.H)) (h : QVg P o s v) : QVg P o s' v := by
  have h1 : Agree s s' (o.op.axs.flatMap AX.tmps) := fun t ht => hag t (List.mem_append_left _ ht)
  have h2 : gate s' o.guard = gate s o.guard := gate_agree fun t w hg => hag t (List.mem_append_right _ (by rw [hg]; simp))
  cases hg : o.guard with
  | none => rw [QVg_none hg] at h ⊢; exact h.agree h1 hc
  | some g =>
    rw [hg] at h2
    rw [QVg_some hg] at h ⊢
    rw [h2]
    rcases h with ⟨h3, h4⟩ | h3
    · exact .inl ⟨h3, h4.agree h1 hc⟩
    · exact .inr h3

/-- What an append that spares a box leaves as it was. -/
def AOp.spared : AOp → Option Nat
  | .sappend _ _ (.tmp b) _ _ => some b
  | _ => none

def AOp.loads : AOp → Option Nat
  | .load _ _ (.tmp t) => some t
  | _ => none

def Spares (s : St) (H' : AHeap) (b : Nat) : Prop := ∀ id off, s.A b = .mp id off → H' id = s.H id

theorem aappend_spare {sz bytes : Nat} {H H' : AHeap} {N N' id off : Nat} {x y v : AV} (h : aappend false sz bytes H N x y = some (v, H', N')) (hs : spareOk N (.mp id off) x = true) : H' id = H id := by
  unfold aappend at h
  split at h
  · cases h
  · split at h
    · simp [spareOk] at hs
      split at h
      · cases h; rfl
      · split at h
        · simp at h
          obtain ⟨_, rfl, _⟩ := h
          simp only [AHeap.set]; rw [if_neg (by omega)]
        · cases h
    · simp [spareOk] at hs
      split at h
      · cases h; rfl
      · split at h
        · simp at h
          obtain ⟨_, rfl, _⟩ := h
          simp only [AHeap.set]; rw [if_neg (by omega)]
        · cases h
    · simp [spareOk] at hs
      split at h
      · split at h
        · cases h
          simp only [AHeap.set, AHeap.del]; rw [if_neg (by omega), if_neg hs.1]
        · cases h
      · cases h
    · cases h

theorem aappend_keep {sz bytes : Nat} {H H' : AHeap} {N N' : Nat} {x y v : AV} (h : aappend false sz bytes H N x y = some (v, H', N')) (hs : keepOk H N x = true) : Keeps H H' := by
  have fr : ∀ o, Keeps H (H.set N o) := fun o id ob hid => by
    simp only [AHeap.set]
    split
    · rename_i he; subst he
      cases x <;> simp [keepOk] at hs
      rw [hs] at hid; cases hid
    · exact hid
  unfold aappend at h
  split at h
  · cases h
  · split at h
    · split at h
      · cases h; exact fun _ _ h => h
      · split at h
        · simp at h
          obtain ⟨_, rfl, _⟩ := h
          exact fr _
        · cases h
    · split at h
      · cases h; exact fun _ _ h => h
      · split at h
        · simp at h
          obtain ⟨_, rfl, _⟩ := h
          exact fr _
        · cases h
    · simp [keepOk] at hs
    · cases h

theorem QV.spare {o : AOper} {s s' : St} {t : Nat} (ht : o.op.loads = some t) (hA : s'.A t = s.A t) (hH : Spares s s'.H t) {v : AV} (h : QV P o s v) : QV P o s' v := by
  obtain ⟨dst, op, g⟩ := o
  simp only at ht
  cases op with
  | load ag sz x =>
    cases x with
    | tmp t' =>
      simp only [AOp.loads, Option.some.injEq] at ht
      subst ht
      simp only [QV, aop, Option.map_eq_some_iff, Prod.mk.injEq, St.ev] at h ⊢
      obtain ⟨r, h1, h2, _, _⟩ := h
      refine ⟨r, ?_, by simp [h2]⟩
      rw [hA]
      cases hx : s.A t' with
      | mp id off => rw [hx] at h1; simp only [aload] at h1 ⊢; rw [hH id off hx]; exact h1
      | ip cs off => rw [hx] at h1; exact h1
      | _ => rw [hx] at h1; simp [aload] at h1
    | _ => simp [AOp.loads] at ht
  | _ => simp [AOp.loads] at ht

theorem QVg.spare {o : AOper} {s s' : St} {t : Nat} (hag : Agree s s' o.looks) (ht : o.op.loads = some t) (hH : Spares s s'.H t) {v : AV} (h : QVg P o s v) : QVg P o s' v := by
  have hA : s'.A t = s.A t := by
    refine hag t (List.mem_append_left _ ?_)
    obtain ⟨dst, op, g⟩ := o
    simp only at ht
    cases op with
    | load ag sz x =>
      cases x with
      | tmp t' => simp only [AOp.loads, Option.some.injEq] at ht; subst ht; simp [AOp.axs, AX.tmps]
      | _ => simp [AOp.loads] at ht
    | _ => simp [AOp.loads] at ht
  have h2 : gate s' o.guard = gate s o.guard := gate_agree fun t w hg => hag t (List.mem_append_right _ (by rw [hg]; simp))
  cases hg : o.guard with
  | none => rw [QVg_none hg] at h ⊢; exact h.spare ht hA hH
  | some g =>
    rw [hg] at h2
    rw [QVg_some hg] at h ⊢
    rw [h2]
    rcases h with ⟨h3, h4⟩ | h3
    · exact .inl ⟨h3, h4.spare ht hA hH⟩
    · exact .inr h3

theorem put_comm {s : St} {d d' : Option Nat} {v v' : AV} (h : ∀ x, d = some x → d' ≠ some x) : (s.put d v).put d' v' = (s.put d' v').put d v := by
  cases d with
  | none => rfl
  | some x =>
    cases d' with
    | none => rfl
    | some y =>
      have hne : y ≠ x := fun hxy => h x rfl (by rw [hxy])
      simp only [St.put]
      congr 1
      funext t
      by_cases h1 : t = y
      · subst h1; simp [hne]
      · simp [h1]

theorem agree_put {s : St} {d : Option Nat} {v : AV} {l : List Nat} (h : ∀ x, d = some x → x ∉ l) : Agree s (s.put d v) l := fun t ht => by
  cases d with
  | none => rfl
  | some x =>
    simp only [St.put]
    rw [if_neg (fun (htx : t = x) => h x rfl (htx ▸ ht))]

theorem put_HN (s : St) (d : Option Nat) (v : AV) : (s.put d v).H = s.H ∧ (s.put d v).N = s.N := by cases d <;> exact ⟨rfl, rfl⟩

theorem aop_put_some {op : AOp} {s : St} {d : Option Nat} {v : AV} (h : ∀ x, d = some x → x ∉ op.axs.flatMap AX.tmps) : aop op (s.put d v) = aop op s := by
  have hag : Agree s (s.put d v) (op.axs.flatMap AX.tmps) := agree_put h
  have e1 : ∀ x ∈ op.axs, (s.put d v).ev x = s.ev x := fun x hx => ev_agree hag hx
  have eO : ∀ x : Option AX, (∀ y, x = some y → y ∈ op.axs) → x.map (s.put d v).ev = x.map s.ev := fun x hx => evO_agree hag hx
  have eL : ∀ r : List AX, (∀ y ∈ r, y ∈ op.axs) → r.map (s.put d v).ev = r.map s.ev := fun x hx => evs_agree hag hx
  have eP : ∀ r : List (Nat × Nat × AX), (∀ y ∈ r, y.2.2 ∈ op.axs) → r.map (fun x => (x.1, x.2.1, (s.put d v).ev x.2.2)) = r.map (fun x => (x.1, x.2.1, s.ev x.2.2)) := fun x hx => parts_agree hag hx
  obtain ⟨hH, hN⟩ := put_HN s d v
  cases op <;> simp only [aop]
  case val x => rw [e1 x (by simp [AOp.axs]), hH, hN]
  case pick c a b => rw [e1 c (by simp [AOp.axs]), e1 a (by simp [AOp.axs]), e1 b (by simp [AOp.axs]), hH, hN]
  case nilck x => rw [e1 x (by simp [AOp.axs]), hH, hN]
  case bin op et x y => rw [e1 x (by simp [AOp.axs]), e1 y (by simp [AOp.axs]), hH, hN]
  case un op x => rw [e1 x (by simp [AOp.axs]), hH, hN]
  case conv k x => rw [e1 x (by simp [AOp.axs]), hH, hN]
  case extract x i => rw [e1 x (by simp [AOp.axs]), hH, hN]
  case field off sz ag x => rw [e1 x (by simp [AOp.axs]), hH, hN]
  case fieldAddr off x => rw [e1 x (by simp [AOp.axs]), hH, hN]
  case indexAddr sz x i => rw [e1 x (by simp [AOp.axs]), e1 i (by simp [AOp.axs]), hH, hN]
  case indexStr x i => rw [e1 x (by simp [AOp.axs]), e1 i (by simp [AOp.axs]), hH, hN]
  case slice sz x lo hi mx =>
    rw [e1 x (by simp [AOp.axs]), eO lo (fun y hy => by subst hy; simp [AOp.axs]), eO hi (fun y hy => by subst hy; simp [AOp.axs]), eO mx (fun y hy => by subst hy; simp [AOp.axs]), hH, hN]
  case sliceStr x lo hi => rw [e1 x (by simp [AOp.axs]), eO lo (fun y hy => by subst hy; simp [AOp.axs]), eO hi (fun y hy => by subst hy; simp [AOp.axs]), hH, hN]
  case len k x => rw [e1 x (by simp [AOp.axs]), hH, hN]
  case mkifc t x => rw [e1 x (by simp [AOp.axs]), hH, hN]
  case mkfn f first capt => rw [eL first (fun y hy => by simp [AOp.axs, hy]), eL capt (fun y hy => by simp [AOp.axs, hy]), hH, hN]
  case build zs parts => rw [eP parts (fun y hy => by simp only [AOp.axs, List.mem_map]; exact ⟨y, hy, rfl⟩), hH, hN]
  case bslice mu sz n zs parts => rw [eP parts (fun y hy => by simp only [AOp.axs, List.mem_map]; exact ⟨y, hy, rfl⟩), hH, hN]
  case load ag sz x => rw [e1 x (by simp [AOp.axs]), hH, hN]
  case store sz x y => rw [e1 x (by simp [AOp.axs]), e1 y (by simp [AOp.axs]), hH, hN]
  case alloc cs => rw [hH, hN]
  case box fz x => rw [e1 x (by simp [AOp.axs]), hH, hN]
  case mkslice sz b zs l c => rw [e1 l (by simp [AOp.axs]), e1 c (by simp [AOp.axs]), hH, hN]
  case append fz sz b x y => rw [e1 x (by simp [AOp.axs]), e1 y (by simp [AOp.axs]), hH, hN]
  case sappend sz n b x y => rw [e1 b (by simp [AOp.axs]), e1 x (by simp [AOp.axs]), e1 y (by simp [AOp.axs]), hH, hN]
  case kappend sz n x y => rw [e1 x (by simp [AOp.axs]), e1 y (by simp [AOp.axs]), hH, hN]
  case mkmap => rw [hH, hN]
  case lookup kd z ok m k => rw [e1 m (by simp [AOp.axs]), e1 k (by simp [AOp.axs]), hH, hN]
  case mapset kd m k v => rw [e1 m (by simp [AOp.axs]), e1 k (by simp [AOp.axs]), e1 v (by simp [AOp.axs]), hH, hN]
  case delete kd m k => rw [e1 m (by simp [AOp.axs]), e1 k (by simp [AOp.axs]), hH, hN]
  case lenm x => rw [e1 x (by simp [AOp.axs]), hH, hN]
  case copy sz x y => rw [e1 x (by simp [AOp.axs]), e1 y (by simp [AOp.axs]), hH, hN]
  case mm2 mx x y => rw [e1 x (by simp [AOp.axs]), e1 y (by simp [AOp.axs]), hH, hN]
  case iload ag sz x => rw [e1 x (by simp [AOp.axs]), hH, hN]
  case mm3 mx x y z => rw [e1 x (by simp [AOp.axs]), e1 y (by simp [AOp.axs]), e1 z (by simp [AOp.axs]), hH, hN]
  case indexA ag sz len x i => rw [e1 x (by simp [AOp.axs]), e1 i (by simp [AOp.axs]), hH, hN]
  case indexP sz len x i => rw [e1 x (by simp [AOp.axs]), e1 i (by simp [AOp.axs]), hH, hN]
  case sliceA sz n x lo hi => rw [e1 x (by simp [AOp.axs]), eO lo (fun y hy => by subst hy; simp [AOp.axs]), eO hi (fun y hy => by subst hy; simp [AOp.axs]), hH, hN]
  case eqS ne l x y => rw [e1 x (by simp [AOp.axs]), e1 y (by simp [AOp.axs]), hH, hN]
  case clearS sz zs x => rw [e1 x (by simp [AOp.axs]), hH, hN]

/-- A temporary that an operation does not see may be written behind it. -/
theorem awpDo_put {o : AOper} {K : St → Prop} {s : St} {d : Option Nat} {v : AV} (h1 : ∀ x, d = some x → x ∉ o.op.axs.flatMap AX.tmps) (h2 : ∀ x, d = some x → o.dst ≠ some x)
    (h : awpDo P o K (s.put d v)) : awpDo P o (fun s1 => K (s1.put d v)) s := by
  have hag : Agree s (s.put d v) (o.op.axs.flatMap AX.tmps) := agree_put h1
  obtain ⟨hH, hN⟩ := put_HN s d v
  have hupd : ∀ r H' N', (s.put d v).upd o.dst r H' N' = (s.upd o.dst r H' N').put d v := fun r H' N' => by
    unfold St.upd
    rw [← put_comm (s := { s with H := H', N := N' }) h2]
    congr 1
    cases d <;> rfl
  rcases op_cases o.op with ⟨f, a, hop⟩ | ⟨f, a, hop⟩ | ⟨f, a, hop⟩ | hn1
  · rw [awpDo_call hop] at h ⊢
    rw [hop] at hag
    rw [ev_agree hag (x := f) (by simp [AOp.axs]), evs_agree hag (r := a) (fun y hy => by simp [AOp.axs, hy])] at h
    rw [hH, hN] at h
    exact h.mono fun r H' N' hk => by rw [hupd] at hk; exact hk
  · rw [awpDo_pcall hop] at h ⊢
    rw [hop] at hag
    rw [ev_agree hag (x := f) (by simp [AOp.axs]), evs_agree hag (r := a) (fun y hy => by simp [AOp.axs, hy])] at h
    split at h
    · obtain ⟨r, h3, h4⟩ := h
      exact ⟨r, h3, by rw [put_comm h2] at h4; exact h4⟩
    · exact h.elim
  · rw [awpDo_kcall hop] at h ⊢
    rw [hop] at hag
    rw [ev_agree hag (x := f) (by simp [AOp.axs]), evs_agree hag (r := a) (fun y hy => by simp [AOp.axs, hy])] at h
    split at h
    · rw [hH, hN] at h
      exact h.mono fun r H' N' hk => by rw [hupd] at hk; exact hk
    · exact h.elim
  · rw [awpDo_op hn1] at h ⊢
    rw [aop_put_some h1] at h
    split at h
    · rw [hupd] at h
      exact h
    · exact h.elim

theorem awpOp_put {o : AOper} {K : St → Prop} {s : St} {d : Option Nat} {v : AV} (h1 : ∀ x, d = some x → x ∉ o.looks) (h2 : ∀ x, d = some x → o.dst ≠ some x)
    (h : awpOp P o K (s.put d v)) : awpOp P o (fun s1 => K (s1.put d v)) s := by
  have hax : ∀ x, d = some x → x ∉ o.op.axs.flatMap AX.tmps := fun x hx hm => h1 x hx (List.mem_append_left _ hm)
  have hgt : gate (s.put d v) o.guard = gate s o.guard := gate_agree fun t w hg => agree_put (l := o.looks) h1 t (List.mem_append_right _ (by rw [hg]; simp))
  cases hg : o.guard with
  | none => rw [awpOp_none hg] at h ⊢; exact awpDo_put hax h2 h
  | some g =>
    rw [hg] at hgt
    rw [awpOp_some hg] at h ⊢
    obtain ⟨b, h3, h4, h5⟩ := h
    rw [hgt] at h3
    refine ⟨b, h3, fun hb => awpDo_put hax h2 (h4 hb), fun hb => ?_⟩
    have := h5 hb
    rw [put_comm h2] at this
    exact this

theorem awpDo_mono {o : AOper} {K K' : St → Prop} {s : St} (hk : ∀ s, K s → K' s) (h : awpDo P o K s) : awpDo P o K' s := by
  rcases op_cases o.op with ⟨f, a, hop⟩ | ⟨f, a, hop⟩ | ⟨f, a, hop⟩ | hn1
  · rw [awpDo_call hop] at h ⊢
    exact h.mono fun r H' N' => hk _
  · rw [awpDo_pcall hop] at h ⊢
    split at h
    · obtain ⟨r, h1, h2⟩ := h; exact ⟨r, h1, hk _ h2⟩
    · exact h.elim
  · rw [awpDo_kcall hop] at h ⊢
    split at h
    · exact h.mono fun r H' N' h1 => ⟨h1.1, hk _ h1.2⟩
    · exact h.elim
  · rw [awpDo_op hn1] at h ⊢
    split at h
    · exact hk _ h
    · exact h.elim

theorem awpOp_mono {o : AOper} {K K' : St → Prop} {s : St} (hk : ∀ s, K s → K' s) (h : awpOp P o K s) : awpOp P o K' s := by
  cases hg : o.guard with
  | none => rw [awpOp_none hg] at h ⊢; exact awpDo_mono hk h
  | some g =>
    rw [awpOp_some hg] at h ⊢
    obtain ⟨b, h1, h2, h3⟩ := h
    exact ⟨b, h1, fun hb => awpDo_mono hk (h2 hb), fun hb => hk _ (h3 hb)⟩

end
end Go.Fw
