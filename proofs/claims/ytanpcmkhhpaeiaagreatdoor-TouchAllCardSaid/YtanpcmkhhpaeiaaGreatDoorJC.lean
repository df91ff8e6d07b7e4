/- touch: the law TouchJoin: sums laid into boxes. -/
import Derived.Test.YtanpcmkhhpaeiaaGreatDoorJB
import Derived.Test.YtanpcmkhhpaeiaaGreatDoorKJ
namespace Go.Proofs.YtanpcmkhhpaeiaaGreatDoor
set_option linter.unusedSimpArgs false
set_option linter.unusedVariables false
open Go Go.Fw
def bothOp (x y : Nat) : AOp := .kcall (.val (.fn (.func 21) [] [])) [.tmp x, .tmp y]
section
variable {fs : List Fr} {Q : Post} {A : Nat → AV} {H : AHeap} {N : Nat} {x y z : SumA}

/-- A call that puts two sums together, within a region. -/
theorem both_call {s t : SumV} {u v : Nat} {d : Nat} {a b c d' e a' b' c' d'' e' : AV} (hF : Fresh H N) (hu : A u = .agg [a, b, c, d', e]) (hv : A v = .agg [a', b', c', d'', e']) (hs : SumAt H s a b c d' e) (ht : SumAt H t a' b' c' d'' e') (ls : s.le 2000) (lt : t.le 2000) {Q : St → Prop}
    (hq : ∀ v H' N', N ≤ N' → Fresh H' N' → (∀ j, j < N → H' j = H j) → SumR H' N (bothS s t) v → Q ⟨upA A d v, H', N'⟩) : runOps Tryz.prog [⟨some d, bothOp u v, none⟩] [] (fun _ => Q) ⟨A, H, N⟩ := by
  have le : ∀ {r : SumV}, r.le 2000 → r.le 500000000 := fun ⟨h1, h2, h3, h4, h5⟩ => ⟨by omega, by omega, by omega, by omega, by omega⟩
  simp [bothOp, hu, hv]
  refine (p_Both hs ht (le ls) (le lt) N).monoF ?_
  rintro r H1 N1 ⟨h1, h2, w1, w2, w3, w4, w5, rfl, h3⟩ hF1 _
  simp
  exact ⟨keeps_of hF h2, hq _ _ _ h1 hF1 h2 ⟨_, _, _, _, _, rfl, h3⟩⟩

def tjC1 (S : SumV) : MkS := ⟨2, 46, bothOp 44 45, [], S⟩
def tjC2 (S : SumV) : MkS := ⟨5, 49, bothOp 47 48, [2], S⟩
theorem tj_d1 {c : ACode} (hc : a_tj_d1 = c) (h3 : A 3 = .ip x.cells 0) (h4 : A 4 = .ip y.cells 0) (hF : Fresh H N) (lx : x.s.le 500) (ly : y.s.le 500)
    (hk : ∀ A' H' N', Fresh H' N' → N ≤ N' → (∀ j, j < N → H' j = H j) → A' 3 = A 3 → A' 4 = A 4 → A' 5 = A 5 → BoxR H' N (bothS x.s y.s) (A' 9) → BoxR H' N (bothS y.s x.s) (A' 10) → onward Tryz.prog fs Q .normal ⟨A', H', N'⟩) :
    run Tryz.prog c fs Q ⟨A, H, N⟩ := by
  subst hc
  have lx2 : x.s.le 2000 := by obtain ⟨a, b, c, d, e⟩ := lx; exact ⟨by omega, by omega, by omega, by omega, by omega⟩
  have ly2 : y.s.le 2000 := by obtain ⟨a, b, c, d, e⟩ := ly; exact ⟨by omega, by omega, by omega, by omega, by omega⟩
  have l3 : aload (fun _ => none) true 5 (.ip x.cells 0) = some (.agg x.cells) := rfl
  have l4 : aload (fun _ => none) true 5 (.ip y.cells 0) = some (.agg y.cells) := rfl
  unfold a_tj_d1
  simp [h3, h4, l3, l4, -aload]
  refine draw_boxes (cs := [tjC1 (bothS x.s y.s), tjC2 (bothS y.s x.s)]) (bs := [⟨6, 9, false⟩, ⟨7, 10, false⟩]) ?_ ?_ ?_ hF ?_ ?_
  · constructor <;> simp [tjC1, tjC2]
  · intro e he
    simp only [List.mem_cons, List.not_mem_nil, or_false] at he
    rcases he with rfl | rfl | rfl | rfl
    · exact .inl ⟨_, .head _, rfl⟩
    · exact .inl ⟨_, .tail _ (.head _), rfl⟩
    · exact .inr ⟨_, .head _, rfl⟩
    · exact .inr ⟨_, .tail _ (.head _), rfl⟩
  · simp [MkS.ent, BxS.ent, nilC, tjC1, tjC2, bothOp]
  · intro c hc L A1 H1 N1 Q1 haf hD hq
    have e44 := hD.tmps 44 (by simp [tjC1, tjC2]) (by simp)
    have e45 := hD.tmps 45 (by simp [tjC1, tjC2]) (by simp)
    have e47 := hD.tmps 47 (by simp [tjC1, tjC2]) (by simp)
    have e48 := hD.tmps 48 (by simp [tjC1, tjC2]) (by simp)
    simp at e44 e45 e47 e48
    simp only [List.mem_cons, List.not_mem_nil, or_false] at hc
    rcases hc with rfl | rfl
    · exact both_call hD.F e44 e45 (x.at _) (y.at _) lx2 ly2 fun v H' N' k1 k2 k3 k4 => hq v H' N' k1 k2 k3 (k4.mono hD.num)
    · exact both_call hD.F e47 e48 (y.at _) (x.at _) ly2 lx2 fun v H' N' k1 k2 k3 k4 => hq v H' N' k1 k2 k3 (k4.mono hD.num)
  · intro A1 H1 N1 hD
    have e3 := hD.tmps 3 (by simp [tjC1, tjC2]) (by simp)
    have e4 := hD.tmps 4 (by simp [tjC1, tjC2]) (by simp)
    have e5 := hD.tmps 5 (by simp [tjC1, tjC2]) (by simp)
    simp at e3 e4 e5
    obtain ⟨i1, p1, p2, p3⟩ := hD.box _ (.head _) rfl
    obtain ⟨i2, r1, r2, r3⟩ := hD.box _ (.tail _ (.head _)) rfl
    have hne := hD.apart _ (.head _) _ (.tail _ (.head _)) (by simp) rfl rfl
    have hm1 := hD.made _ (.head _) rfl
    have hm2 := hD.made _ (.tail _ (.head _)) rfl
    simp only [tjC1, tjC2] at hm1 hm2
    simp only at p2 r2 hne
    obtain ⟨a1, b1, c1, d1, f1, s1, u1⟩ := hm1
    obtain ⟨a2, b2, c2, d2, f2, s2, u2⟩ := hm2
    have hi : i1 ≠ i2 := fun h => hne (by rw [p2, r2, h])
    obtain ⟨g1, g2, g3, g4⟩ := fill_two hD.F p3 r3 nilC_rows nilC_rows hi p1 r1 ⟨_, _, _, _, _, rfl, u1⟩ ⟨_, _, _, _, _, rfl, u2⟩
    have hk0 := hk A1 _ N1 g1 hD.num (fun j hj => (g2 j hj).trans (hD.old j hj)) e3 e4 e5 (by rw [p2]; exact g3) (by rw [r2]; exact g4)
    simp [p2, r2, s1, s2, p3, r3, nilC, splice, u1.r.lst.cells, u1.w.lst.cells, u1.t.lst.cells, u1.g.lst.cells, u1.c.lst.cells, u2.r.lst.cells, u2.w.lst.cells, u2.t.lst.cells, u2.g.lst.cells, u2.c.lst.cells, hi, hi.symm, -AV.cells]
    exact hk0

def tjC3 (S : SumV) : MkS := ⟨2, 52, bothOp 50 51, [], S⟩
def tjC4 (S : SumV) : MkS := ⟨4, 54, bothOp 52 53, [2, 2], S⟩
def tjC5 (S : SumV) : MkS := ⟨8, 58, bothOp 56 57, [4], S⟩
def tjC6 (S : SumV) : MkS := ⟨9, 59, bothOp 55 58, [8, 8], S⟩
theorem tj_d2 {c : ACode} (hc : a_tj_d2 = c) (h3 : A 3 = .ip x.cells 0) (h4 : A 4 = .ip y.cells 0) (h5 : A 5 = .ip z.cells 0) (hF : Fresh H N) (lx : x.s.le 500) (ly : y.s.le 500) (lz : z.s.le 500)
    (hk : ∀ A' H' N', Fresh H' N' → N ≤ N' → (∀ j, j < N → H' j = H j) → A' 3 = A 3 → A' 4 = A 4 → A' 9 = A 9 → A' 10 = A 10 → BoxR H' N (bothS (bothS x.s y.s) z.s) (A' 11) → BoxR H' N (bothS x.s (bothS y.s z.s)) (A' 12) → onward Tryz.prog fs Q .normal ⟨A', H', N'⟩) :
    run Tryz.prog c fs Q ⟨A, H, N⟩ := by
  subst hc
  have up : ∀ {r : SumV} {n : Nat}, n ≤ 2000 → r.le n → r.le 2000 := fun hn ⟨a, b, c, d, e⟩ => ⟨by omega, by omega, by omega, by omega, by omega⟩
  have lxy : (bothS x.s y.s).le 2000 := up (by omega) (bothS_le lx ly)
  have lyz : (bothS y.s z.s).le 2000 := up (by omega) (bothS_le ly lz)
  have l3 : aload (fun _ => none) true 5 (.ip x.cells 0) = some (.agg x.cells) := rfl
  have l4 : aload (fun _ => none) true 5 (.ip y.cells 0) = some (.agg y.cells) := rfl
  have l5 : aload (fun _ => none) true 5 (.ip z.cells 0) = some (.agg z.cells) := rfl
  unfold a_tj_d2
  simp [h3, h4, h5, l3, l4, l5, -aload]
  refine draw_boxes (cs := [tjC3 (bothS x.s y.s), tjC4 (bothS (bothS x.s y.s) z.s), tjC5 (bothS y.s z.s), tjC6 (bothS x.s (bothS y.s z.s))]) (bs := [⟨10, 11, false⟩, ⟨11, 12, false⟩]) ?_ ?_ ?_ hF ?_ ?_
  · constructor <;> simp [tjC3, tjC4, tjC5, tjC6]
  · intro e he
    simp only [List.mem_cons, List.not_mem_nil, or_false] at he
    rcases he with rfl | rfl | rfl | rfl | rfl | rfl
    · exact .inl ⟨_, .head _, rfl⟩
    · exact .inl ⟨_, .tail _ (.head _), rfl⟩
    · exact .inl ⟨_, .tail _ (.tail _ (.head _)), rfl⟩
    · exact .inl ⟨_, .tail _ (.tail _ (.tail _ (.head _))), rfl⟩
    · exact .inr ⟨_, .head _, rfl⟩
    · exact .inr ⟨_, .tail _ (.head _), rfl⟩
  · simp [MkS.ent, BxS.ent, nilC, tjC3, tjC4, tjC5, tjC6, bothOp]
  · intro c hc L A1 H1 N1 Q1 haf hD hq
    have e50 := hD.tmps 50 (by simp [tjC3, tjC4, tjC5, tjC6]) (by simp)
    have e51 := hD.tmps 51 (by simp [tjC3, tjC4, tjC5, tjC6]) (by simp)
    have e53 := hD.tmps 53 (by simp [tjC3, tjC4, tjC5, tjC6]) (by simp)
    have e55 := hD.tmps 55 (by simp [tjC3, tjC4, tjC5, tjC6]) (by simp)
    have e56 := hD.tmps 56 (by simp [tjC3, tjC4, tjC5, tjC6]) (by simp)
    have e57 := hD.tmps 57 (by simp [tjC3, tjC4, tjC5, tjC6]) (by simp)
    simp at e50 e51 e53 e55 e56 e57
    simp only [List.mem_cons, List.not_mem_nil, or_false] at hc
    rcases hc with rfl | rfl | rfl | rfl
    · exact both_call hD.F e50 e51 (x.at _) (y.at _) (up (by omega) lx) (up (by omega) ly) fun v H' N' k1 k2 k3 k4 => hq v H' N' k1 k2 k3 (k4.mono hD.num)
    · obtain ⟨w1, w2, w3, w4, w5, he, hat⟩ := hD.made (tjC3 (bothS x.s y.s)) (by simp) (haf 2 (by simp [tjC4]))
      exact both_call hD.F he e53 hat.at (z.at _) lxy (up (by omega) lz) fun v H' N' k1 k2 k3 k4 => hq v H' N' k1 k2 k3 (k4.mono hD.num)
    · exact both_call hD.F e56 e57 (y.at _) (z.at _) (up (by omega) ly) (up (by omega) lz) fun v H' N' k1 k2 k3 k4 => hq v H' N' k1 k2 k3 (k4.mono hD.num)
    · obtain ⟨w1, w2, w3, w4, w5, he, hat⟩ := hD.made (tjC5 (bothS y.s z.s)) (by simp) (haf 8 (by simp [tjC6]))
      exact both_call hD.F e55 he (x.at _) hat.at (up (by omega) lx) lyz fun v H' N' k1 k2 k3 k4 => hq v H' N' k1 k2 k3 (k4.mono hD.num)
  · intro A1 H1 N1 hD
    have e3 := hD.tmps 3 (by simp [tjC3, tjC4, tjC5, tjC6]) (by simp)
    have e4 := hD.tmps 4 (by simp [tjC3, tjC4, tjC5, tjC6]) (by simp)
    have e9 := hD.tmps 9 (by simp [tjC3, tjC4, tjC5, tjC6]) (by simp)
    have e10 := hD.tmps 10 (by simp [tjC3, tjC4, tjC5, tjC6]) (by simp)
    simp at e3 e4 e9 e10
    obtain ⟨i1, p1, p2, p3⟩ := hD.box _ (.head _) rfl
    obtain ⟨i2, r1, r2, r3⟩ := hD.box _ (.tail _ (.head _)) rfl
    have hne := hD.apart _ (.head _) _ (.tail _ (.head _)) (by simp) rfl rfl
    have hm1 := hD.made _ (.tail _ (.head _)) rfl
    have hm2 := hD.made _ (.tail _ (.tail _ (.tail _ (.head _)))) rfl
    simp only [tjC3, tjC4, tjC5, tjC6] at hm1 hm2
    simp only at p2 r2 hne
    obtain ⟨a1, b1, c1, d1, f1, s1, u1⟩ := hm1
    obtain ⟨a2, b2, c2, d2, f2, s2, u2⟩ := hm2
    have hi : i1 ≠ i2 := fun h => hne (by rw [p2, r2, h])
    obtain ⟨g1, g2, g3, g4⟩ := fill_two hD.F p3 r3 nilC_rows nilC_rows hi p1 r1 ⟨_, _, _, _, _, rfl, u1⟩ ⟨_, _, _, _, _, rfl, u2⟩
    have hk0 := hk A1 _ N1 g1 hD.num (fun j hj => (g2 j hj).trans (hD.old j hj)) e3 e4 e9 e10 (by rw [p2]; exact g3) (by rw [r2]; exact g4)
    simp [p2, r2, s1, s2, p3, r3, nilC, splice, u1.r.lst.cells, u1.w.lst.cells, u1.t.lst.cells, u1.g.lst.cells, u1.c.lst.cells, u2.r.lst.cells, u2.w.lst.cells, u2.t.lst.cells, u2.g.lst.cells, u2.c.lst.cells, hi, hi.symm, -AV.cells]
    exact hk0

end
end Go.Proofs.YtanpcmkhhpaeiaaGreatDoor
