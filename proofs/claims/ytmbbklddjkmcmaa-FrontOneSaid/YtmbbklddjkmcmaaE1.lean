/- front: the walk up from the blocks from which one comes. -/
import Derived.Test.YtmbbklddjkmcmaaC5
import Derived.Test.YtmbbklddjkmcmaaK3
namespace Go.Proofs.Ytmbbklddjkmcmaa
set_option linter.unusedSimpArgs false
set_option linter.unusedVariables false
open Go Go.Fw Go.Dm

end Go.Proofs.Ytmbbklddjkmcmaa
namespace Go.Fw
open Go
set_option linter.unusedSectionVars false
variable [Globals]

/-- One more in a row, with all that is as it was. -/
theorem RowsAt.push2 {H : AHeap} {N lo o : Nat} {cs : List AV} {w : List (List Int)} {l : List Int} {c : Nat} (h : RowsAt H lo o w cs) (hF : Fresh H N) (hlo : lo ≤ N) (hc : w[c]? = some l) (hl : l.length ≤ 1000000000000) (v : Int) :
    ∃ a H', cs[c]? = some a ∧ a.cells = some [a] ∧ aappend false 1 8 H N a (.sl .exact 1 [[i64 v]]) = some (.ms N 0 (l.length + 1) 1, H', N + 1) ∧ H' o = some (.blk cs) ∧ (∀ j, j ≠ N → (∀ n, a ≠ .ms j 0 n 1) → H' j = H j) ∧ (∀ j, j < lo → H' j = H j) ∧ Fresh H' (N + 1) ∧
      RowsAt (H'.set o (.blk (cs.set c (.ms N 0 (l.length + 1) 1)))) lo o (w.set c (l ++ [v])) (cs.set c (.ms N 0 (l.length + 1) 1)) := by
  have hcw : c < w.length := (List.getElem?_eq_some_iff.1 hc).1
  have hcl : c < cs.length := by rw [h.len]; exact hcw
  have ha : cs[c]? = some cs[c] := List.getElem?_eq_getElem hcl
  have hB := h.row c l _ hc ha
  obtain ⟨H', happ, hN, hold, hF', hB'⟩ := push_raw (bytes := 8) (k := .exact) (x := [i64 v]) hB hF hlo rfl (by rw [intCells_len]; unfold lim; omega) (by rw [intCells_len]; omega)
  rw [intCells_len] at happ hB'
  have hlow : ∀ j, j < lo → H' j = H j := fun j hj => hold j (by omega) fun n he => by
    rw [he] at hB
    obtain ⟨_, ⟨_, h2, _⟩ | ⟨_, id, hid, h2, _⟩⟩ := hB
    · cases h2
    · cases h2; omega
  have hoN : o ≠ N := by have := h.olo; omega
  refine ⟨cs[c], H', ha, hB.rd.cells, happ, (hlow o h.olo).trans h.at_, hold, hlow, hF', ⟨by simp [AHeap.set], by simp [h.len], h.olo, fun c' l' a' h1 h2 => ?_, fun c1 c2 id n n' h1 h2 => ?_⟩⟩
  · have keep : ∀ {es : List (List AV)} {x : AV}, Built H' lo 1 (.sl .nil 0 []) es x → Built (H'.set o (.blk (cs.set c (.ms N 0 (l.length + 1) 1)))) lo 1 (.sl .nil 0 []) es x := fun hb => hb.keep fun j hj => by
      have := h.olo
      simp only [AHeap.set]; rw [if_neg (by omega)]
    rw [List.getElem?_set] at h1 h2
    by_cases hcc : c = c'
    · subst hcc
      rw [if_pos rfl, if_pos hcw] at h1
      rw [if_pos rfl, if_pos hcl] at h2
      cases h1; cases h2
      rw [intCells_app]
      exact keep hB'
    · rw [if_neg hcc] at h1 h2
      have hb := h.row c' l' a' h1 h2
      refine keep ?_
      obtain ⟨b1, b2⟩ := hb
      refine ⟨b1, b2.imp id ?_⟩
      rintro ⟨hne, i, hi, rfl, hHi⟩
      refine ⟨hne, i, hi, rfl, ?_⟩
      rw [hold i (by have := hF.lt hHi; omega) fun n he => ?_]
      · exact hHi
      · rw [he] at ha
        exact hcc (h.apart c c' i n _ ha h2)
  · rw [List.getElem?_set] at h1 h2
    have hnoN : ∀ (c' n : Nat), cs[c']? ≠ some (.ms N 0 n 1) := fun c' n he => by
      have hcl' : c' < w.length := by rw [← h.len]; exact (List.getElem?_eq_some_iff.1 he).1
      have hb := h.row c' w[c'] _ (List.getElem?_eq_getElem hcl') he
      obtain ⟨_, ⟨_, h2, _⟩ | ⟨_, i, _, h2, h3⟩⟩ := hb
      · cases h2
      · cases h2; have := hF.lt h3; omega
    by_cases e1 : c = c1
    · by_cases e2 : c = c2
      · exact e1.symm.trans e2
      · subst e1
        rw [if_pos rfl, if_pos hcl] at h1
        rw [if_neg e2] at h2
        cases h1
        exact absurd h2 (hnoN _ _)
    · by_cases e2 : c = c2
      · subst e2
        rw [if_neg e1] at h1
        rw [if_pos rfl, if_pos hcl] at h2
        cases h2
        exact absurd h1 (hnoN _ _)
      · rw [if_neg e1] at h1
        rw [if_neg e2] at h2
        exact h.apart c1 c2 id n n' h1 h2


theorem RowsAt.alloc {H : AHeap} {N lo o : Nat} {cs : List AV} {w : List (List Int)} (h : RowsAt H lo o w cs) (hF : Fresh H N) (ob : AObj) : RowsAt (H.set N ob) lo o w cs where
  at_ := by
    have := hF.lt h.at_
    simp [show o ≠ N by omega, h.at_]
  len := h.len
  olo := h.olo
  row := fun c l a h1 h2 => built_later (h.row c l a h1 h2) hF fun j hj => by simp [show j ≠ N by omega]
  apart := h.apart

end Go.Fw
namespace Go.Proofs.Ytmbbklddjkmcmaa
set_option linter.unusedSimpArgs false
set_option linter.unusedVariables false
open Go Go.Fw Go.Dm

section
variable {x : GraphV} {g : List RowV} {L : List Int} {bs : List Nat} {A : Nat → AV} {H : AHeap} {N : Nat} {fs : List Fr} {Q : Post}

open Classical in
/-- Is b strictly above c? -/
noncomputable def strictI (L : List Int) (bs : List Nat) (b c : Int) : Bool := decide (b ≠ c) && abI L bs b c

def sfn (cb T : Nat) : AV := .fn (.func 49) [] [.mp cb 0, .mp T 0]

theorem a_strict (hT : TreeOk g L bs) {cb T : Nat} {b c : Int} (hc : H cb = some (.blk [i64 c])) (ht : H T = some (.blk [treeV g.length L bs])) (N : Nat) :
    ACall Try.prog 49 [i64 b, .mp cb 0, .mp T 0] H N (fun r H' N' => r = bl (strictI L bs b c) ∧ H' = H ∧ N' = N) := by
  refine acall mixed c_front_Of_1 (by simp) ?_
  by_cases hbc : b = c
  · simp [a_front_Of_1, hc, hbc, strictI]
  · simp [a_front_Of_1, hc, ht, hbc]
    refine (p_Above hT b c).acall ?_
    simp [strictI, hbc]

/-- What is in a block's frontier by one way. -/
def DfW (E : Nat → Nat → Prop) (L : List Int) (bs : List Nat) (b c p : Nat) : Prop := Rch E p ∧ Up (nxOf L) b p ∧ strictI L bs (b : Int) (c : Int) = false

theorem strict_up (hT : TreeOk g L bs) {a b c : Nat} (hb : Rch (Edge g) b) (h : Up (nxOf L) a b) (hs : strictI L bs (b : Int) (c : Int) = true) : strictI L bs (a : Int) (c : Int) = true := by
  simp only [strictI, Bool.and_eq_true, decide_eq_true_eq] at hs ⊢
  obtain ⟨h1, h2⟩ := hs
  have hab : abI L bs (a : Int) (b : Int) = true := by rw [ab_iff hT]; simp; exact ⟨hb, h⟩
  refine ⟨fun h3 => ?_, ab_trans hT hab h2⟩
  rw [← h3] at h2 h1
  exact ab_anti hT h1 h2 hab

/-- What the rows hold, when these ways have been gone. -/
structure FrW (g : List RowV) (L : List Int) (bs : List Nat) (w : List (List Int)) (S : Nat → Nat → Nat → Prop) (m : Nat) : Prop where
  len : w.length = g.length
  mem : ∀ (b : Nat) (l : List Int), w[b]? = some l → ∀ v, v ∈ l ↔ ∃ c : Nat, v = c ∧ ∃ p, S b c p
  short : ∀ l ∈ w, l.length ≤ m

theorem FrW.push {w : List (List Int)} {S S' : Nat → Nat → Nat → Prop} {m b c p : Nat} {l : List Int} (h : FrW g L bs w S m) (hb : w[b]? = some l) (hm : l.length + 1 ≤ m)
    (hS : ∀ b' c' p', S' b' c' p' ↔ S b' c' p' ∨ (b' = b ∧ c' = c ∧ p' = p)) : FrW g L bs (w.set b (l ++ [(c : Int)])) S' m := by
  have hbw : b < w.length := (List.getElem?_eq_some_iff.1 hb).1
  refine ⟨by simp [h.len], fun b' l' hl' v => ?_, fun l' hl' => ?_⟩
  · rw [List.getElem?_set] at hl'
    by_cases hbb : b = b'
    · subst hbb
      rw [if_pos rfl, if_pos hbw] at hl'
      cases hl'
      rw [List.mem_append, List.mem_singleton, h.mem b l hb v]
      constructor
      · rintro (⟨c', h1, p', h2⟩ | rfl)
        · exact ⟨c', h1, p', (hS _ _ _).2 (.inl h2)⟩
        · exact ⟨c, rfl, p, (hS _ _ _).2 (.inr ⟨rfl, rfl, rfl⟩)⟩
      · rintro ⟨c', h1, p', h2⟩
        rcases (hS _ _ _).1 h2 with h3 | ⟨_, h4, _⟩
        · exact .inl ⟨c', h1, p', h3⟩
        · exact .inr (by rw [h1, h4])
    · rw [if_neg hbb] at hl'
      rw [h.mem b' l' hl' v]
      constructor
      · rintro ⟨c', h1, p', h2⟩
        exact ⟨c', h1, p', (hS _ _ _).2 (.inl h2)⟩
      · rintro ⟨c', h1, p', h2⟩
        rcases (hS _ _ _).1 h2 with h3 | ⟨h4, _, _⟩
        · exact ⟨c', h1, p', h3⟩
        · exact absurd h4.symm hbb
  · rcases List.mem_or_eq_of_mem_set hl' with h1 | h1
    · exact h.short l' h1
    · subst h1; simp; omega

/-- The heap while the frontiers are made. -/
structure FrH (H : AHeap) (N T o cb : Nat) (tv : AV) (c : Int) (w : List (List Int)) (cs : List AV) : Prop where
  f : Fresh H N
  t : H T = some (.blk [tv])
  c : H cb = some (.blk [i64 c])
  rows : RowsAt H (o + 1) o w cs
  To : T < o
  oc : o < cb
  cr : ∀ (k n : Nat), cs[k]? ≠ some (.ms cb 0 n 1)

theorem FrH.push {T o cb b : Nat} {tv : AV} {c : Int} {w : List (List Int)} {cs : List AV} {l : List Int} (h : FrH H N T o cb tv c w cs) (hb : w[b]? = some l) (hl : l.length ≤ 1000000) :
    ∃ a H', cs[b]? = some a ∧ a.cells = some [a] ∧ aappend false 1 8 H N a (.sl .exact 1 [[i64 c]]) = some (.ms N 0 (l.length + 1) 1, H', N + 1) ∧ H' o = some (.blk cs) ∧
      FrH (H'.set o (.blk (cs.set b (.ms N 0 (l.length + 1) 1)))) (N + 1) T o cb tv c (w.set b (l ++ [c])) (cs.set b (.ms N 0 (l.length + 1) 1)) := by
  have hoN := h.f.lt h.rows.at_
  have hcN := h.f.lt h.c
  obtain ⟨a, H', h1, h2, h3, h4, hold, hlow, hF, hR⟩ := h.rows.push2 h.f (by omega) hb (by omega) c
  have hTo := h.To
  have hoc := h.oc
  have hbc : b < cs.length := (List.getElem?_eq_some_iff.1 h1).1
  refine ⟨a, H', h1, h2, h3, h4, fun i hi => ?_, ?_, ?_, hR, hTo, hoc, fun k n hk => ?_⟩
  · simp [show i ≠ o by omega, hF i hi]
  · simp [show T ≠ o by omega]
    rw [hlow T (by omega), h.t]
  · simp [show cb ≠ o by omega]
    rw [hold cb (by omega) (fun n ha => h.cr b n (by rw [h1, ha])), h.c]
  · rw [List.getElem?_set] at hk
    by_cases hbk : b = k
    · subst hbk
      rw [if_pos rfl, if_pos hbc] at hk
      cases hk
      omega
    · rw [if_neg hbk] at hk
      exact h.cr k n hk

/-- Where one stands on the way up. -/
structure FwU (g : List RowV) (L : List Int) (bs : List Nat) (S : Nat → Nat → Nat → Prop) (m c p T o cb : Nat) (tv : AV) (l : List Nat) (A0 : Nat → AV) (k : Nat) (s : St) : Prop where
  ex : ∃ (i : Nat) (w : List (List Int)) (cs : List AV), k = l.length - i ∧ i ≤ l.length ∧ (∀ t ∈ [0, 3, 5, 6, 8, 9, 23, 24, 30, 31, 32], s.A t = A0 t) ∧ s.A 10 = i64 (match l[i]? with | some b => (b : Int) | none => -1) ∧
    FrH s.H s.N T o cb tv (c : Int) w cs ∧ (∀ d ∈ l.take i, strictI L bs (d : Int) (c : Int) = false) ∧
    FrW g L bs w (fun b' c' p' => S b' c' p' ∨ (c' = c ∧ p' = p ∧ b' ∈ l.take i)) (m + 1) ∧ ∀ (b : Nat) (l1 : List Int), b ∉ l.take i → w[b]? = some l1 → l1.length ≤ m

theorem Ups.nodup (h : TreeOk g L bs) {b : Nat} {l : List Nat} (hl : Ups L b l) (hb : Rch (Edge g) b) : l.Nodup := by
  induction hl with
  | last _ => simp
  | @more b d l h1 h2 ih =>
    have hn : nxOf L b = some d := by unfold nxOf; rw [h1]; simp
    have hd := h.sol.fit.dn b d hb hn
    rw [List.nodup_cons]
    refine ⟨fun hm => ?_, ih hd.1⟩
    have := (h2.mem.1 hm).le h.sol.fit hd.1
    have h3 := hd.2.1
    omega
theorem Ups.drop {b : Nat} {l : List Nat} (hl : Ups L b l) : ∀ {i c : Nat}, l[i]? = some c → Ups L c (l.drop i) := by
  induction hl with
  | @last b h1 =>
    intro i c hc
    cases i with
    | zero => simp at hc; subst hc; exact .last h1
    | succ i => simp at hc
  | @more b d l h1 h2 ih =>
    intro i c hc
    cases i with
    | zero => simp at hc; subst hc; exact .more h1 h2
    | succ i => exact ih (by simpa using hc)

theorem fr_up (hn : g.length ≤ 100) (hT : TreeOk g L bs) {S : Nat → Nat → Nat → Prop} {m c p T o cb : Nat} {l : List Nat} {w : List (List Int)} {cs : List AV} (hp : Rch (Edge g) p) (hl : Ups L p l) (hm : m ≤ 100000)
    (h3 : A 3 = .mp T 0) (h5 : A 5 = .ms o 0 g.length 1) (h6 : A 6 = i64 p) (h8 : A 8 = .mp cb 0) (h9 : A 9 = sfn cb T) (h10 : A 10 = i64 p) (hH : FrH H N T o cb (treeV g.length L bs) (c : Int) w cs) (hW : FrW g L bs w S m)
    (hk : ∀ (A' : Nat → AV) (H' : AHeap) (N' : Nat) (w' : List (List Int)) (cs' : List AV), (∀ t ∈ [0, 3, 5, 6, 8, 9, 23, 24, 30, 31, 32], A' t = A t) → FrH H' N' T o cb (treeV g.length L bs) (c : Int) w' cs' → FrW g L bs w' (fun b' c' p' => S b' c' p' ∨ (c' = c ∧ p' = p ∧ DfW (Edge g) L bs b' c p)) (m + 1) →
      onward Try.prog fs Q (.exit 4) ⟨A', H', N'⟩) : run Try.prog (.loop a_front_Ofb2) fs Q ⟨A, H, N⟩ := by
  have hln := hl.nodup hT hp
  have hls := hl.short hT hp
  have hix := row_pl hT p hp
  have hbl := row_len hT
  obtain ⟨K, hK⟩ : ∃ K, K = l.length := ⟨_, rfl⟩
  refine run_loop (FwU g L bs S m c p T o cb (treeV g.length L bs) l A) K ?_ ?_
  · refine ⟨0, w, cs, by omega, by omega, by simp, ?_, hH, by simp, ⟨hW.len, fun b l1 hb v => ?_, fun l1 h => ?_⟩, fun b l1 _ hb => hW.short l1 (List.mem_of_getElem? hb)⟩
    · show A 10 = _
      rw [h10, hl.head]
    · rw [hW.mem b l1 hb v]; simp
    · have := hW.short l1 h; omega
  · rintro k A1 H1 N1 ⟨i, w1, cs1, hk', hi, hA, e10, hH1, hno, hW1, hsh⟩
    simp only at hA e10 hH1
    have hA' := hA
    simp at hA'
    obtain ⟨g0, g3, g5, g6, g8, g9, g23, g24, g30, g31, g32⟩ := hA'
    rw [h3] at g3
    rw [h5] at g5
    rw [h6] at g6
    rw [h8] at g8
    rw [h9] at g9
    have ht := hH1.t
    have hcb := hH1.c
    have qp := rchI_of hT hp
    have lt : aload H1 false 1 (.mp T 0) = some (treeV g.length L bs) := by simp [aload, apart, ht]
    have lc : aload H1 false 1 (.mp cb 0) = some (i64 c) := by simp [aload, apart, hcb]
    have fin : ∀ (i' : Nat), (∀ d ∈ l.take i', strictI L bs (d : Int) (c : Int) = false) → (∀ d, d ∈ l → strictI L bs (d : Int) (c : Int) = false → d ∈ l.take i') → FrW g L bs w1 (fun b' c' p' => S b' c' p' ∨ (c' = c ∧ p' = p ∧ b' ∈ l.take i')) (m + 1) → FrW g L bs w1 (fun b' c' p' => S b' c' p' ∨ (c' = c ∧ p' = p ∧ DfW (Edge g) L bs b' c p)) (m + 1) := fun i' k1 k2 hF => by
      refine ⟨hF.len, fun b l1 hb v => ?_, hF.short⟩
      rw [hF.mem b l1 hb v]
      constructor
      · rintro ⟨c', h1, p', h2 | ⟨rfl, rfl, h2⟩⟩
        · exact ⟨c', h1, p', .inl h2⟩
        · exact ⟨c', h1, p', .inr ⟨rfl, rfl, hp, hl.mem.1 (List.mem_of_mem_take h2), k1 b h2⟩⟩
      · rintro ⟨c', h1, p', h2 | ⟨rfl, rfl, h2⟩⟩
        · exact ⟨c', h1, p', .inl h2⟩
        · exact ⟨c', h1, p', .inr ⟨rfl, rfl, k2 b (hl.mem.2 h2.2.1) h2.2.2⟩⟩
    by_cases hil : i = l.length
    · subst hil
      rw [List.getElem?_eq_none (Nat.le_refl _)] at e10
      simp only at e10
      simp [a_front_Ofb2, g3, g6, lt, -aload]
      refine (p_Reached hT _).acall ?_
      simp [qp, e10]
      refine hk _ _ _ w1 cs1 (by simpa [g3, g6] using hA) hH1 ?_
      exact fin l.length (by simpa using hno) (fun d hd _ => by simpa using hd) hW1
    · have hlt : i < l.length := by omega
      obtain ⟨b, hb⟩ : ∃ b, l[i]? = some b := ⟨_, List.getElem?_eq_getElem hlt⟩
      rw [hb] at e10
      simp only at e10
      have hbm := List.mem_of_getElem? hb
      have hub := hl.mem.1 hbm
      have hrb : Rch (Edge g) b := hub.rch hT.sol.fit hp
      have b0 : decide ((0 : Int) ≤ (b : Int)) = true := decide_eq_true (by omega)
      simp [a_front_Ofb2, g3, g6, lt, -aload]
      refine (p_Reached hT _).acall ?_
      simp [qp, e10, g9, sfn]
      refine (a_strict hT hcb ht N1).mono ?_
      rintro r H2 N2 ⟨rfl, hHe, hNe⟩
      rw [hHe, hNe]
      cases hs : strictI L bs (b : Int) (c : Int) with
      | true =>
        simp
        refine hk _ _ _ w1 cs1 (by simpa [g3, g6, g9, sfn] using hA) hH1 ?_
        refine fin i hno (fun d hd hds => ?_) hW1
        obtain ⟨j, hj, hjd⟩ := List.getElem_of_mem hd
        by_cases hji : j < i
        · rw [← hjd]
          exact List.mem_take_iff_getElem.2 ⟨j, by omega, rfl⟩
        · exfalso
          have hd2 : d ∈ l.drop i := by
            rw [← hjd]
            rw [List.mem_drop_iff_getElem]
            exact ⟨j - i, by omega, by congr 1; omega⟩
          have := strict_up hT (c := c) hrb ((hl.drop hb).mem.1 hd2) hs
          rw [this] at hds
          cases hds
      | false =>
        have hbg : b < g.length := hT.row.lt b ((hT.row.mem b).2 hrb)
        have hbw : b < w1.length := by rw [hW1.len]; exact hbg
        have hwb : w1[b]? = some w1[b] := List.getElem?_eq_getElem hbw
        have hbn : b ∉ l.take i := fun hh => by
          obtain ⟨j, hj, hjb⟩ := List.mem_take_iff_getElem.1 hh
          have h1 := List.getElem?_eq_getElem (l := l) (i := j) (by omega)
          rw [hjb] at h1
          have := (List.getElem?_inj (by omega) hln).1 (h1.trans hb.symm)
          omega
        have hlen1 := hsh b _ hbn hwb
        obtain ⟨a, H', hca, hac, happ, hHo, hH2⟩ := hH1.push hwb (by omega)
        have hbc : b < cs1.length := (List.getElem?_eq_some_iff.1 hca).1
        have hat := hH1.rows.at_
        have ix : aindex 1 (.ms o 0 g.length 1) (i64 b) = some (.mp o b) := by simp [aindex, hbg]
        have lo : aload H1 false 1 (.mp o b) = some a := by simp [aload, apart, hat, hca]
        have hst : astore H' 1 (.mp o b) (.ms N1 0 (w1[b].length + 1) 1) = some (H'.set o (.blk (cs1.set b (.ms N1 0 (w1[b].length + 1) 1)))) := by
          simp [astore, hHo, show b + 1 ≤ cs1.length by omega]
        have lt2 : aload (H'.set o (.blk (cs1.set b (.ms N1 0 (w1[b].length + 1) 1)))) false 1 (.mp T 0) = some (treeV g.length L bs) := by
          have := hH2.t
          simp only [aload, this, apart]
          rfl
        have qb := rchI_of hT hrb
        have hnx : i64 (nxI L bs b) = i64 (match l[i + 1]? with | some b => (b : Int) | none => -1) := by
          have hd := hl.drop hb
          cases hn1 : l[i + 1]? with
          | some d =>
            have := hl.next hb hn1
            simp [nxI, qb, List.getD, this]
          | none =>
            have hlen2 : l.length = i + 1 := by
              have := List.getElem?_eq_none_iff.1 hn1
              omega
            have hdl : (l.drop i).length = 1 := by simp; omega
            generalize l.drop i = m2 at hd hdl
            cases hd with
            | last h1 => simp [nxI, qb, List.getD, h1]
            | more h1 h2 =>
              cases h2 <;> simp at hdl
        have htk : l.take (i + 1) = l.take i ++ [b] := by rw [List.take_add_one, hb]; rfl
        simp [g3, g5, g8, e10, ix, lo, lc, happ, hst, lt2, -aload, -astore]
        refine (p_Next hT _).acall ?_
        simp
        refine ⟨K - (i + 1), by omega, ⟨i + 1, _, _, by omega, by omega, by simpa [g3, g5, g6, g8, g9, sfn] using hA, hnx, hH2, fun d hd => ?_, ?_, fun b' l1 hb' hl1 => ?_⟩⟩
        · rw [htk, List.mem_append, List.mem_singleton] at hd
          rcases hd with hd | rfl
          · exact hno d hd
          · exact hs
        · refine FrW.push (p := p) hW1 hwb (by omega) fun b' c' p' => ?_
          rw [htk, List.mem_append, List.mem_singleton]
          constructor
          · rintro (h1 | ⟨h1, h2, h3 | h3⟩)
            · exact .inl (.inl h1)
            · exact .inl (.inr ⟨h1, h2, h3⟩)
            · exact .inr ⟨h3, h1, h2⟩
          · rintro ((h1 | ⟨h1, h2, h3⟩) | ⟨h1, h2, h3⟩)
            · exact .inl h1
            · exact .inr ⟨h1, h2, .inl h3⟩
            · exact .inr ⟨h2, h3, .inr h1⟩
        · rw [htk, List.mem_append, List.mem_singleton] at hb'
          have hne : b ≠ b' := fun h => hb' (.inr h.symm)
          rw [List.getElem?_set, if_neg hne] at hl1
          exact hsh b' l1 (fun h => hb' (.inl h)) hl1

end
end Go.Proofs.Ytmbbklddjkmcmaa
