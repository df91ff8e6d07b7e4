/- The examples. -/
import Derived.Test.YtmgmgeijfkcglaaA6
import Derived.Test.YtmgmgeijfkcglaaA2
namespace Go.Proofs.Ytmgmgeijfkcglaa
set_option linter.unusedSimpArgs false
set_option linter.unusedVariables false
open Go Go.Fw
attribute [local simp] Value.oneCell' anil aidxs noHeap_or set_or

theorem IsMem.keep {H H' : AHeap} {m hid cid : Nat} {rids : List Nat} {rows : List (List Int)} {locks : Int} {held : List (Int × Int)} (hM : IsMem H m hid cid rids rows locks held) (hk : Keeps H H') : IsMem H' m hid cid rids rows locks held :=
  ⟨hM.hb, hM.hn, hM.hk, hk _ _ hM.hm, hk _ _ hM.hh, fun h => hk _ _ (hM.hc h), hM.hl, fun i rid row h1 h2 => hk _ _ (hM.hr i rid row h1 h2), hM.nd⟩

def g0 : Glob := ⟨⟨#[]⟩, 2, 7⟩

theorem p15 : PCall Try.prog 15 [] (bl true) := by
  refine PCall.of fun N => acall mixed c15 (by simp) ?_
  have hsp : splice 0 [AV.lit (Value.string ⟨#[]⟩), AV.lit (Value.int .i64 2), AV.lit (Value.int .i64 7)] [AV.lit (Value.string ⟨#[]⟩), AV.lit (Value.int .i64 0), AV.lit (Value.int .i64 0)] = [AV.lit (Value.string ⟨#[]⟩), AV.lit (Value.int .i64 2), AV.lit (Value.int .i64 7)] := by simp [splice]
  simp [a15, hsp]
  refine (p20 .exact [g0] (by simp) 1 N).mono ?_
  intro r H1 N1 hr
  have : ∃ m hid cid rids, r = .tup [.mp m 0, i64 0] ∧ IsMem H1 m hid cid rids [[7, 7]] 1 [] := hr
  clear hr
  obtain ⟨m, hid, cid, rids, rfl, hM⟩ := this
  simp
  refine (p21 hM 0 1 5 N1).mono ?_
  rintro r H2 N2 ⟨rfl, hM2, _, rfl⟩
  have hM2' : IsMem H2 m hid cid rids [[7, 5]] 1 [] := hM2
  simp [show cellErr [[7, 7]] 0 1 = 0 by decide]
  refine (p22 hM2' 0 3 N2).monoF ?_
  rintro r H3 N3 ⟨rfl, hM3, _, rfl⟩ hF3 _
  have hM3' : IsMem H3 m hid cid rids [[7, 5]] 1 [(0, 3)] := hM3
  simp [show takeErr 1 [] 0 = 0 by decide]
  refine (p26 hM3' N3).mono ?_
  intro r H4 N4 hC
  have hM4 : IsMem H4 m hid cid rids [[7, 5]] 1 [(0, 3)] := hM3'.keep fun id o ho => by rw [hC.2.1 id (hF3.lt ho)]; exact ho
  obtain ⟨hC1, _, _⟩ := hC
  rw [if_neg (by simp)] at hC1
  obtain ⟨oid, ids, rfl, hR, _⟩ := hC1
  obtain ⟨i0, rfl⟩ : ∃ i0, ids = [i0] := by
    have := hR.hl
    match ids, this with
    | [x], _ => exact ⟨x, rfl⟩
  have hro := hR.ho
  have hri := hR.hr 0 i0 [7, 5] rfl rfl
  simp at hro hri
  simp
  refine (p25 hM4 0 N4).mono ?_
  rintro r H5 N5 ⟨rfl, rfl, rfl⟩
  simp [show holder [(0, 3)] 0 = some 3 by decide]
  refine (p24 hM4 0 2 N5).mono ?_
  rintro r H6 N6 ⟨rfl, rfl, rfl⟩
  simp [show cellErr [[7, 5]] 0 2 = 5 by decide]
  refine (p13 11 (-7) 2).acall ?_
  simp [show binR 11 (-7) 2 = some (-1) by decide, ans]
  refine (p13 10 1 0).acall ?_
  simp [show binR 10 1 0 = none by decide, ans, aindex, hro, hri]
  exact .free rfl

end Go.Proofs.Ytmgmgeijfkcglaa
