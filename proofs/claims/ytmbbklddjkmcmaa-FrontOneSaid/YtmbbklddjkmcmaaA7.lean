/- dom: the lowest one that is above both. -/
import Derived.Test.YtmbbklddjkmcmaaA6
namespace Go.Proofs.Ytmbbklddjkmcmaa
set_option linter.unusedSimpArgs false
set_option linter.unusedVariables false
open Go Go.Fw Go.Dm

/-- Next ones, out of the numbers. -/
def nxOf (L : List Int) (b : Nat) : Option Nat := match L[b]? with
  | some v => if 0 ≤ v then some v.toNat else none
  | none => none

theorem nxOf_some {L : List Int} {b d : Nat} (h : nxOf L b = some d) : L[b]? = some (d : Int) := by
  unfold nxOf at h
  split at h
  · rename_i v hv
    split at h
    · cases h; rw [hv]; congr 1; omega
    · cases h
  · cases h

/-- A tree that is being made. -/
structure TAt (H : AHeap) (t ni qi : Nat) (L P : List Int) : Prop where
  t : H t = some (.blk [.ms ni 0 L.length 1, .ms qi 0 L.length 1])
  n : H ni = some (.blk (L.map i64))
  p : H qi = some (.blk (P.map i64))
  len : P.length = L.length
  ne : ni ≠ qi

def Dfd (nx : Nat → Option Nat) (b : Nat) : Prop := b = 0 ∨ ∃ e, nx b = some e

section
variable {H : AHeap} {t ni qi : Nat} {L P : List Int} {E : Nat → Nat → Prop} {pl pr : Nat → Nat}

theorem a_meet (hT : TAt H t ni qi L P) (ho : Dm.Ord E pl pr) (hf : Fit E pl (nxOf L)) (hP : ∀ x, Rch E x → P[x]? = some (pl x : Int)) (a b : Nat) (ha : Rch E a) (hb : Rch E b) (da : Dfd (nxOf L) a) (db : Dfd (nxOf L) b) (N : Nat) :
    ACall Try.prog 41 [.mp t 0, i64 a, i64 b] H N (fun r H' N' => H' = H ∧ N' = N ∧ ∃ m : Nat, r = i64 m ∧ Rch E m ∧ Dfd (nxOf L) m ∧ ∀ c, Up (nxOf L) c m ↔ (Up (nxOf L) c a ∧ Up (nxOf L) c b)) := by
  have ht := hT.t
  have hn := hT.n
  have hp := hT.p
  have hlen := hT.len
  refine acall mixed c_dom_Tree_meet (by simp) ?_
  simp [a_dom_Tree_meet]
  refine run_loop (fun k s => ∃ a' b' : Nat, k = pl a' + pl b' ∧ s.A 0 = .mp t 0 ∧ s.A 1 = i64 a' ∧ s.A 2 = i64 b' ∧ s.H = H ∧ s.N = N ∧ Rch E a' ∧ Rch E b' ∧ Dfd (nxOf L) a' ∧ Dfd (nxOf L) b' ∧ ∀ c, (Up (nxOf L) c a' ∧ Up (nxOf L) c b') ↔ (Up (nxOf L) c a ∧ Up (nxOf L) c b)) (pl a + pl b) ?_ ?_
  · exact ⟨a, b, rfl, by simp, by simp, by simp, rfl, rfl, ha, hb, da, db, fun c => Iff.rfl⟩
  · rintro k A H1 N1 ⟨a', b', rfl, h0, h1, h2, rfl, rfl, ra, rb, da', db', hiff⟩
    simp only at h0 h1 h2
    by_cases hab : a' = b'
    · subst hab
      simp [a_dom_Tree_meetb1, h1, h2]
      exact ⟨a', rfl, ra, da', fun c => by rw [← hiff c]; simp⟩
    · have pa := hP a' ra
      have pb := hP b' rb
      have la : a' < P.length := (List.getElem?_eq_some_iff.1 pa).1
      have lb : b' < P.length := (List.getElem?_eq_some_iff.1 pb).1
      have ga : P[a'] = (pl a' : Int) := (List.getElem?_eq_some_iff.1 pa).2
      have gb : P[b'] = (pl b' : Int) := (List.getElem?_eq_some_iff.1 pb).2
      have ia : aindex 1 (.ms qi 0 L.length 1) (i64 a') = some (.mp qi a') := by simp [aindex, ← hlen, la]
      have ib : aindex 1 (.ms qi 0 L.length 1) (i64 b') = some (.mp qi b') := by simp [aindex, ← hlen, lb]
      have ia2 : aindex 1 (.ms ni 0 L.length 1) (i64 a') = some (.mp ni a') := by simp [aindex, ← hlen, la]
      have ib2 : aindex 1 (.ms ni 0 L.length 1) (i64 b') = some (.mp ni b') := by simp [aindex, ← hlen, lb]
      by_cases hlt : pl b' < pl a'
      · have ha0 : a' ≠ 0 := fun h => by subst h; rw [ho.pl0] at hlt; omega
        obtain ⟨d, hd⟩ := da'.resolve_left ha0
        have hLd := nxOf_some hd
        have hdn := hf.dn a' d ra hd
        have ld : a' < L.length := by omega
        have gd : L[a'] = (d : Int) := (List.getElem?_eq_some_iff.1 hLd).2
        simp [a_dom_Tree_meetb1, h0, h1, h2, show ¬ ((a' : Int) = b') by omega, ht, hp, hn, ia, ib, ia2, la, lb, ga, gb, ld, gd, show (pl b' : Int) < pl a' by omega]
        exact ⟨pl d + pl b', by omega, d, b', rfl, rfl, rfl, hdn.1, rb, hdn.2.2, db', fun c => by rw [← meet_left hf rb hd hlt]; exact hiff c⟩
      · have hne : pl a' ≠ pl b' := fun h => hab (ho.inj a' b' ra rb h)
        have hlt2 : pl a' < pl b' := by omega
        have hb0 : b' ≠ 0 := fun h => by subst h; rw [ho.pl0] at hlt2; omega
        obtain ⟨d, hd⟩ := db'.resolve_left hb0
        have hLd := nxOf_some hd
        have hdn := hf.dn b' d rb hd
        have ld : b' < L.length := by omega
        have gd : L[b'] = (d : Int) := (List.getElem?_eq_some_iff.1 hLd).2
        simp [a_dom_Tree_meetb1, h0, h1, h2, show ¬ ((a' : Int) = b') by omega, ht, hp, hn, ia, ib, ib2, la, lb, ga, gb, ld, gd, show ¬ (pl b' : Int) < pl a' by omega]
        exact ⟨pl a' + pl d, by omega, a', d, rfl, rfl, rfl, ra, hdn.1, da', hdn.2.2, fun c => by rw [and_comm, ← meet_left hf ra hd hlt2, and_comm]; exact hiff c⟩

end
end Go.Proofs.Ytmbbklddjkmcmaa
