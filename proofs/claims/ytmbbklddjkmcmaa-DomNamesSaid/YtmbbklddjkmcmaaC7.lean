/- dom: the law DomNames. -/
import Derived.Test.YtmbbklddjkmcmaaC5
import Derived.Test.YtmbbklddjkmcmaaM5
namespace Go.Proofs.Ytmbbklddjkmcmaa
set_option linter.unusedSimpArgs false
set_option linter.unusedVariables false
open Go Go.Fw Go.Dm

abbrev nilT : AV := .lit (.pointer none)

theorem n_Reached (b : Int) : PCall Try.prog 21 [nilT, i64 b] (bl false) := by
  refine PCall.of fun N => acall mixed c_dom_Tree_Reached (by simp) ?_
  simp [a_dom_Tree_Reached]
  exact .free rfl
theorem n_Next (b : Int) : PCall Try.prog 22 [nilT, i64 b] (i64 (-1)) := by
  refine PCall.of fun N => acall mixed c_dom_Tree_Next (by simp) ?_
  simp [a_dom_Tree_Next]
  refine (n_Reached b).acall ?_
  simp
  exact .free rfl
theorem n_Above (a b : Int) : PCall Try.prog 26 [nilT, i64 a, i64 b] (bl false) := by
  refine PCall.of fun N => acall mixed c_dom_Tree_Above (by simp) ?_
  simp [a_dom_Tree_Above]
  refine (n_Reached a).acall ?_
  simp
  exact .free rfl
theorem n_Kids (b : Int) : PCall Try.prog 24 [nilT, i64 b] (.sl .nil 0 []) := by
  refine PCall.of fun N => acall mixed c_dom_Tree_Kids (by simp) ?_
  simp [a_dom_Tree_Kids]
  refine (n_Reached b).acall ?_
  simp
  exact .free rfl
theorem n_Order : PCall Try.prog 19 [nilT] (.sl .nil 0 []) := by
  refine PCall.of fun N => acall mixed c_dom_Tree_Order (by simp) ?_
  simp [a_dom_Tree_Order]
  exact .free rfl

/-- A graph that may not be. -/
theorem no_Of (x : GraphV) (hx : x.Ok) (he : edges x.g ≤ 1000000000) (hm : mayG x.g = false) {H : AHeap} {N : Nat} {Q : AV → AHeap → Nat → Prop} (hq : Q (.tup [nilT, i64 4]) H N) : ACall Try.prog 16 [x.av] H N Q := by
  refine (p_Of x hx he).acall ?_
  intro r hr
  rw [if_neg (by rw [hm]; simp)] at hr
  rw [hr]
  exact hq
theorem may_Of (x : GraphV) (hx : x.Ok) (he : edges x.g ≤ 1000000000) (hm : mayG x.g = true) {H : AHeap} {N : Nat} {Q : AV → AHeap → Nat → Prop} (hq : ∀ L bs, TreeOk x.g L bs → Q (.tup [treeV x.g.length L bs, i64 0]) H N) : ACall Try.prog 16 [x.av] H N Q := by
  refine (p_Of x hx he).acall ?_
  intro r hr
  rw [if_pos hm] at hr
  obtain ⟨L, bs, hT, rfl⟩ := hr
  exact hq L bs hT

def exN : GraphV := ⟨.nil, 0, []⟩
theorem exN_ok : exN.Ok := ⟨.inr rfl, by simp [exN], by simp [exN]⟩
def exO : GraphV := ⟨.exact, 1, [⟨.exact, 1, [1]⟩]⟩
theorem exO_ok : exO.Ok := ⟨.inl rfl, by simp [exO, maxLen], fun r hr => by
  simp [exO] at hr
  subst hr
  exact ⟨.inl rfl, by simp [maxLen]⟩⟩
def exM : GraphV := ⟨.exact, 1, [⟨.exact, 1, [-1]⟩]⟩
theorem exM_ok : exM.Ok := ⟨.inl rfl, by simp [exM, maxLen], fun r hr => by
  simp [exM] at hr
  subst hr
  exact ⟨.inl rfl, by simp [maxLen]⟩⟩
def exC : GraphV := ⟨.exact, 1, [⟨.nil, 0, []⟩]⟩
theorem exC_ok : exC.Ok := ⟨.inl rfl, by simp [exC, maxLen], fun r hr => by
  simp [exC] at hr
  subst hr
  exact ⟨.inr rfl, by simp [maxLen]⟩⟩
def exL (n : Nat) : GraphV := ⟨.any, 1, List.replicate n ⟨.nil, 0, []⟩⟩
theorem exL_ok {n : Nat} (hn : n ≤ 100000) : (exL n).Ok := ⟨.inl rfl, by
  have hm : maxLen = 9223372036854775807 := rfl
  simp [exL]; omega, fun r hr => by
  rw [List.eq_of_mem_replicate hr]
  exact ⟨.inr rfl, by simp [maxLen]⟩⟩
theorem exL_e {n : Nat} : edges (exL n).g = 0 := by
  simp [edges, exL]
theorem exL_may {n : Nat} (hn : 32768 < n) : mayG (exL n).g = false := by
  unfold mayG
  rw [decide_eq_false (by simp [exL]; omega : ¬ (exL n).g.length ≤ 32768)]
  simp
theorem exL_av {n : Nat} : (exL n).av = .sl .any 1 (List.replicate n [.sl .nil 0 []]) := by
  simp [exL, GraphV.av, gCells, RowV.av, intCells]

def exB : GraphV := ⟨.exact, 1, [⟨.exact, 1, [1]⟩, ⟨.exact, 1, [2]⟩, ⟨.exact, 1, [1, 3]⟩, ⟨.nil, 0, []⟩, ⟨.exact, 1, [0]⟩]⟩
theorem exB_ok : exB.Ok := ⟨.inl rfl, by simp [exB, maxLen], fun r hr => by
  simp [exB] at hr
  rcases hr with rfl | rfl | rfl | rfl | rfl
  · exact ⟨.inl rfl, by simp [maxLen]⟩
  · exact ⟨.inl rfl, by simp [maxLen]⟩
  · exact ⟨.inl rfl, by simp [maxLen]⟩
  · exact ⟨.inr rfl, by simp [maxLen]⟩
  · exact ⟨.inl rfl, by simp [maxLen]⟩⟩
theorem exB01 : Edge exB.g 0 1 := ⟨_, rfl, by simp⟩
theorem exB12 : Edge exB.g 1 2 := ⟨_, rfl, by simp⟩
theorem exB23 : Edge exB.g 2 3 := ⟨_, rfl, by simp⟩
theorem exB0 {c : Nat} (h : Edge exB.g 0 c) : c = 1 := by
  obtain ⟨r, h1, h2⟩ := h
  cases h1
  simp at h2; omega
theorem exB1 {c : Nat} (h : Edge exB.g 1 c) : c = 2 := by
  obtain ⟨r, h1, h2⟩ := h
  cases h1
  simp at h2; omega
theorem exB2 {c : Nat} (h : Edge exB.g 2 c) : c = 1 ∨ c = 3 := by
  obtain ⟨r, h1, h2⟩ := h
  cases h1
  simp at h2; omega
theorem exB3 {c : Nat} (h : Edge exB.g 3 c) : False := by
  obtain ⟨r, h1, h2⟩ := h
  cases h1
  simp at h2

theorem exB_low {b : Nat} (h : Rch (Edge exB.g) b) : b ≤ 3 := by
  induction h with
  | zero => omega
  | @step a b _ h2 ih =>
    match a, ih with
    | 0, _ => have := exB0 h2; omega
    | 1, _ => have := exB1 h2; omega
    | 2, _ => have := exB2 h2; omega
    | 3, _ => exact (exB3 h2).elim
theorem exB_av1 {b : Nat} (h : Av (Edge exB.g) 1 b) : b = 0 := by
  induction h with
  | zero _ => rfl
  | step _ h2 h3 ih => subst ih; exact absurd (exB0 h2) h3
theorem exB_av2 {b : Nat} (h : Av (Edge exB.g) 2 b) : b ≤ 1 := by
  induction h with
  | zero _ => omega
  | @step a b _ h2 h3 ih =>
    match a, ih with
    | 0, _ => have := exB0 h2; omega
    | 1, _ => exact absurd (exB1 h2) h3

section
variable {L : List Int} {bs : List Nat}
theorem exB_facts (h : TreeOk exB.g L bs) : nxI L bs 3 = 2 ∧ abI L bs 1 3 = true ∧ abI L bs 3 1 = false ∧ rchI bs 4 = false ∧ nxI L bs 4 = -1 ∧ nxI L bs 0 = -1 ∧ abI L bs 4 4 = false ∧ abI L bs 0 0 = true := by
  have r1 : Rch (Edge exB.g) 1 := .step .zero exB01
  have r2 : Rch (Edge exB.g) 2 := .step r1 exB12
  have r3 : Rch (Edge exB.g) 3 := .step r2 exB23
  have q3 := rchI_of h r3
  have q4 : rchI bs 4 = false := by
    cases hq : rchI bs 4 with
    | false => rfl
    | true =>
      have := exB_low ((rch_iff h).1 hq).2
      simp at this
  have q0 := rchI_of h .zero
  have hz := at_zero h
  simp at q3 q0
  have u2 : Up (nxOf L) 2 3 := (h.sol.dom 3 2 r3).2 fun hav => by have := exB_av2 hav; omega
  have u1 : Up (nxOf L) 1 3 := (h.sol.dom 3 1 r3).2 fun hav => by have := exB_av1 hav; omega
  obtain ⟨d, hd⟩ := h.sol.all 3 r3 (by omega)
  have hdn := h.sol.fit.dn 3 d r3 hd
  have hd3 : d ≠ 3 := fun hh => by subst hh; exact absurd hdn.2.1 (Nat.lt_irrefl _)
  have hdl := exB_low hdn.1
  obtain ⟨e, he, hu⟩ := u2.inv (by omega)
  rw [hd] at he; cases he
  have hd2 : d = 2 := by
    match d, hdl with
    | 0, _ => have := hu.zero h.sol.fit.z; omega
    | 1, _ => exact absurd (.step (.zero (by omega)) exB01 (by omega)) ((h.sol.dom 1 2 r1).1 hu)
    | 2, _ => rfl
    | 3, _ => exact absurd rfl hd3
  subst hd2
  refine ⟨?_, ?_, ?_, q4, ?_, ?_, ?_, ?_⟩
  · simp [nxI, q3, List.getD, nxOf_some hd]
  · rw [ab_iff h]; simp; exact ⟨r3, u1⟩
  · cases hab : abI L bs 3 1 with
    | false => rfl
    | true =>
      have := ((ab_iff h).1 hab).2.2.2
      simp at this
      exact absurd (.step (.zero (by omega)) exB01 (by omega)) ((h.sol.dom 1 3 r1).1 this)
  · simp [nxI, q4]
  · simp [nxI, q0, List.getD, hz]
  · rw [ab_refl h]; exact q4
  · rw [ab_refl h]; exact q0

theorem exC_facts (h : TreeOk exC.g L bs) : orderL L bs = [0] ∧ rchI bs 0 = true := by
  have q0 := rchI_of h .zero
  simp at q0
  refine ⟨?_, q0⟩
  have hz := at_zero h
  have hl : L.length = 1 := h.ll
  have hL : L = [-1] := by
    match L, hl with
    | [a], _ => simp at hz; simp [hz]
  subst hL
  have hb := List.idxOf_lt_length_iff.2 ((h.row.mem 0).2 .zero)
  obtain ⟨m, hm⟩ : ∃ m, bs.length = m + 1 := ⟨bs.length - 1, by omega⟩
  have k0 : kidsL [-1] 0 = [] := by decide
  unfold orderL
  rw [hm]
  simp [pre, k0]
end

theorem freeL_rep (n : Nat) : freeL (List.replicate n (.sl .nil 0 [])) = true := by
  induction n with
  | zero => rfl
  | succ n ih => simp only [List.replicate_succ, freeL, ih, Bool.and_true]; rfl
theorem view_rep {H : AHeap} {id n : Nat} (h : H id = some (.blk (List.replicate n (.sl .nil 0 [])))) : View H (.ms id 0 n 1) (exL n).av := by
  have hv := View.ms' (H := H) (sz := 1) (len := n) h (by simp) (ViewL.refl (freeL_rep n))
  have hc := chunks_one (List.replicate n (AV.sl .nil 0 []))
  rw [List.length_replicate] at hc
  rw [hc] at hv
  rw [exL_av]
  simpa using hv

theorem p_DomNames (H : AHeap) (N : Nat) : ACall Try.prog 4 [] H N (fun r _ _ => r = bl true) := by
  refine acall mixed c_bobbinlaw12_DomNames (by simp) ?_
  obtain ⟨n, hn⟩ : ∃ n : Nat, n = 32769 := ⟨_, rfl⟩
  have hmk : amake 1 24 [.sl .nil 0 []] (i64 32769) (i64 32769) = some (n, n) := by
    rw [hn]; simp [amake]
  obtain ⟨M, hM⟩ : ∃ M, M = List.replicate n (AV.sl .nil 0 []) := ⟨_, rfl⟩
  have hrep : (List.replicate n [AV.sl .nil 0 []]).flatten = M := by rw [hM]; simp
  simp [a_bobbinlaw12_DomNames]
  refine no_Of exN exN_ok (by simp [exN, edges]) (by decide) ?_
  simp
  refine no_Of exO exO_ok (by simp [exO, edges]) (by decide) ?_
  simp
  refine no_Of exM exM_ok (by simp [exM, edges]) (by decide) ?_
  simp [hmk, hrep]
  refine ACall.still (args := [.ms N 0 n 1]) (args' := [(exL n).av]) (no_Of (exL n) (exL_ok (by omega)) (by rw [exL_e]; omega) (exL_may (by omega)) ?_) rfl ?_
  case refine_2 =>
    intro i a b ha hb
    cases i with
    | zero =>
      simp at ha hb
      subst ha; subst hb
      exact .inr (view_rep (by simp [hM]))
    | succ i => simp at ha
  simp
  refine may_Of exB exB_ok (by simp [exB, edges]) (by decide) ?_
  intro L bs hT
  obtain ⟨f1, f2, f3, f4, f5, f6, f7, f8⟩ := exB_facts hT
  simp
  refine may_Of exC exC_ok (by simp [exC, edges]) (by decide) ?_
  intro L2 bs2 hT2
  obtain ⟨g1, g2⟩ := exC_facts hT2
  simp
  refine (p_Next hT 3).acall ?_
  simp [f1]
  refine (p_Above hT 1 3).acall ?_
  simp [f2]
  refine (p_Above hT 3 1).acall ?_
  simp [f3]
  refine (p_Reached hT 4).acall ?_
  simp [f4]
  refine (p_Next hT 4).acall ?_
  simp [f5]
  refine (p_Next hT 0).acall ?_
  simp [f6]
  refine (p_Above hT 4 4).acall ?_
  simp [f7]
  refine (p_Above hT 0 0).acall ?_
  simp [f8]
  refine (p_Reached hT2 0).acall ?_
  simp [g2]
  refine (a_Order hT2 (by simp [exC]) _ _).monoF ?_
  rintro r1 H1 N1 ⟨hN1, _, hB1⟩ hF1 _
  rw [g1] at hB1
  simp
  refine (p_same hB1 (RdSl.sl .exact : RdSl H1 1 (intCells [0]) (.sl .exact 1 (intCells [0]))) (by simp [natI]) N1).mono ?_
  rintro r2 H2 N2 rfl
  simp [natI]
  refine (n_Reached 0).acall ?_
  simp
  refine (n_Next 0).acall ?_
  simp
  refine (n_Above 0 0).acall ?_
  simp
  refine (n_Kids 0).acall ?_
  simp
  refine n_Order.acall ?_
  simp
  exact p_awake.acall (by simp)

end Go.Proofs.Ytmbbklddjkmcmaa
