/- The law MemNames. -/
import Derived.Test.YtmgmgeijfkcglaaB1
import Derived.Test.YtmgmgeijfkcglaaH4
namespace Go.Proofs.Ytmgmgeijfkcglaa
set_option linter.unusedSimpArgs false
set_option linter.unusedVariables false
open Go Go.Fw
attribute [local simp] Value.oneCell' anil aidxs noHeap_or set_or

abbrev nilP : AV := .lit (.pointer none)

theorem n_cell (a b : Int) : PCall Try.prog 40 [nilP, i64 a, i64 b] (.tup [nilP, i64 2]) := by
  refine PCall.of fun N => acall mixed c40 (by simp) ?_
  simp [a40]
  exact .free rfl
theorem n_lock (a : Int) : PCall Try.prog 41 [nilP, i64 a] (i64 2) := by
  refine PCall.of fun N => acall mixed c41 (by simp) ?_
  simp [a41]
  exact .free rfl
theorem n_Get (a b : Int) : PCall Try.prog 24 [nilP, i64 a, i64 b] (.tup [i64 0, i64 2]) := by
  refine PCall.of fun N => acall mixed c24 (by simp) ?_
  simp [a24]
  refine (n_cell a b).acall ?_
  simp
  exact .free rfl
theorem n_Set (a b v : Int) : PCall Try.prog 21 [nilP, i64 a, i64 b, i64 v] (i64 2) := by
  refine PCall.of fun N => acall mixed c21 (by simp) ?_
  simp [a21]
  refine (n_cell a b).acall ?_
  simp
  exact .free rfl
theorem n_Take (a b : Int) : PCall Try.prog 22 [nilP, i64 a, i64 b] (i64 2) := by
  refine PCall.of fun N => acall mixed c22 (by simp) ?_
  simp [a22]
  refine (n_lock a).acall ?_
  simp
  exact .free rfl
theorem n_Give (a b : Int) : PCall Try.prog 23 [nilP, i64 a, i64 b] (i64 2) := by
  refine PCall.of fun N => acall mixed c23 (by simp) ?_
  simp [a23]
  refine (n_lock a).acall ?_
  simp
  exact .free rfl
theorem n_Holder (a : Int) : PCall Try.prog 25 [nilP, i64 a] (.tup [i64 0, bl false]) := by
  refine PCall.of fun N => acall mixed c25 (by simp) ?_
  simp [a25]
  exact .free rfl
theorem n_Cells : PCall Try.prog 26 [nilP] (.sl .nil 0 []) := by
  refine PCall.of fun N => acall mixed c26 (by simp) ?_
  simp [a26, nilOf]
  exact .free rfl
theorem n_Copy : PCall Try.prog 28 [nilP] nilP := by
  refine PCall.of fun N => acall mixed c_mem_Mem_Copy (by simp) ?_
  simp [a_mem_Mem_Copy]
  exact .free rfl
theorem n_Same : PCall Try.prog 27 [nilP, nilP] (bl true) := by
  refine PCall.of fun N => acall mixed c_mem_Same (by simp) ?_
  simp [a_mem_Same]
  exact .free rfl
theorem n_Same1 (m : Nat) (H : AHeap) (N : Nat) : ACall Try.prog 27 [.mp m 0, nilP] H N (fun r H' N' => r = bl false ∧ H' = H ∧ N' = N) := by
  refine acall mixed c_mem_Same (by simp) ?_
  simp [a_mem_Same]
theorem n_Same2 (m : Nat) (H : AHeap) (N : Nat) : ACall Try.prog 27 [nilP, .mp m 0] H N (fun r H' N' => r = bl false ∧ H' = H ∧ N' = N) := by
  refine acall mixed c_mem_Same (by simp) ?_
  simp [a_mem_Same]

/-- New, that is refused. -/
theorem new_bad (k : SK) (l : List Glob) (hl : l.length < 1000000000) (locks e : Int) (he : if l.any Glob.bad = true then e = 4 else (locks < 0 ∨ 256 < locks) ∧ e = 1) (H : AHeap) (N : Nat) :
    ACall Try.prog 20 [.sl k 3 (l.map Glob.cells), i64 locks] H N (fun r H' N' => r = .tup [nilP, i64 e]) :=
  (p20 k l hl locks N).lift H (by
    intro r H1 N' hr _
    unfold NewAns at hr
    split at he
    · rename_i hb; rw [if_pos hb] at hr; subst he; exact hr
    · rename_i hb; rw [if_neg hb, if_pos he.1] at hr; rw [he.2]; exact hr)

theorem new_good (k : SK) (l : List Glob) (hl : l.length < 1000000000) (locks : Int) (hb : l.any Glob.bad = false) (h0 : 0 ≤ locks) (h1 : locks ≤ 256) (H : AHeap) (N : Nat) :
    ACall Try.prog 20 [.sl k 3 (l.map Glob.cells), i64 locks] H N (fun r H' N' => ∃ m hid cid rids, r = .tup [.mp m 0, i64 0] ∧ IsMem H' m hid cid rids (l.map Glob.row) locks []) :=
  (p20 k l hl locks N).lift H (by
    intro r H1 N' hr _
    unfold NewAns at hr
    rw [if_neg (by simp [hb]), if_neg (by omega)] at hr
    obtain ⟨m, hid, cid, rids, rfl, hM⟩ := hr
    exact ⟨m, hid, cid, rids, rfl, hM.keep (le_or_left _ _)⟩)

theorem new_nil (locks e : Int) (he : (locks < 0 ∨ 256 < locks) ∧ e = 1) (H : AHeap) (N : Nat) : ACall Try.prog 20 [.sl .nil 0 [], i64 locks] H N (fun r H' N' => r = .tup [nilP, i64 e]) := by
  refine (new_bad .nil [] (by simp) locks e (by rw [if_neg (by simp)]; exact he) H N).conv rfl fun i a b ha hb => ?_
  match i with
  | 0 => simp at ha hb; subst ha; subst hb; exact .nil
  | 1 => simp at ha hb; subst ha; subst hb; exact .refl _
  | i + 2 => simp at ha

def gz (s f : Int) : Glob := ⟨⟨#[]⟩, s, f⟩

theorem p_MemNames : ACall Try.prog 10 [] noHeap 0 (fun r _ _ => r = bl true) := by
  refine acall mixed c_bobbinlaw08_MemNames (by simp) ?_
  have hsp : ∀ (a b : Int), splice 0 [AV.lit (Value.string ⟨#[]⟩), AV.lit (Value.int .i64 a), AV.lit (Value.int .i64 b)] [AV.lit (Value.string ⟨#[]⟩), AV.lit (Value.int .i64 0), AV.lit (Value.int .i64 0)] = [AV.lit (Value.string ⟨#[]⟩), AV.lit (Value.int .i64 a), AV.lit (Value.int .i64 b)] := by simp [splice]
  simp [a_bobbinlaw08_MemNames, hsp]
  refine (n_Get 0 0).acall ?_
  simp
  refine (n_Holder 0).acall ?_
  simp [hsp]
  refine (new_bad .exact [gz 0 0] (by simp) 0 4 (by simp [gz, Glob.bad]) _ _).mono ?_
  rintro r H1 N1 rfl
  simp [hsp]
  refine (new_bad .exact [gz 1025 0] (by simp) 0 4 (by simp [gz, Glob.bad]) _ _).mono ?_
  rintro r H1 N1 rfl
  simp
  refine (new_nil (-1) 1 (by simp) _ _).mono ?_
  rintro r H1 N1 rfl
  simp
  refine (new_nil 257 1 (by simp) _ _).mono ?_
  rintro r H1 N1 rfl
  simp [hsp]
  refine (new_good .exact [gz 2 7] (by simp) 1 (by simp [gz, Glob.bad]) (by omega) (by omega) _ _).mono ?_
  rintro r H1 N1 ⟨m, hid, cid, rids, rfl, hM⟩
  replace hM : IsMem H1 m hid cid rids [[7, 7]] 1 [] := hM
  simp
  refine (p21 hM 0 1 5 _).mono ?_
  rintro r H2 N2 ⟨rfl, hM2, _, rfl⟩
  replace hM2 : IsMem H2 m hid cid rids [[7, 5]] 1 [] := hM2
  simp [show cellErr [[7, 7]] 0 1 = 0 by decide]
  refine (p21 hM2 1 0 5 _).mono ?_
  rintro r H3 N3 ⟨rfl, hM3, _, rfl⟩
  replace hM3 : IsMem H3 m hid cid rids [[7, 5]] 1 [] := hM3
  simp [show cellErr [[7, 5]] 1 0 = 1 by decide]
  refine (p21 hM3 0 2 5 _).mono ?_
  rintro r H4 N4 ⟨rfl, hM4, _, rfl⟩
  replace hM4 : IsMem H4 m hid cid rids [[7, 5]] 1 [] := hM4
  simp [show cellErr [[7, 5]] 0 2 = 5 by decide]
  refine (p22 hM4 0 3 _).mono ?_
  rintro r H5 N5 ⟨rfl, hM5, _, rfl⟩
  replace hM5 : IsMem H5 m hid cid rids [[7, 5]] 1 [(0, 3)] := hM5
  simp [show takeErr 1 [] 0 = 0 by decide]
  refine (p22 hM5 0 3 _).mono ?_
  rintro r H6 N6 ⟨rfl, hM6, _, rfl⟩
  replace hM6 : IsMem H6 m hid cid rids [[7, 5]] 1 [(0, 3)] := hM6
  simp [show takeErr 1 [(0, 3)] 0 = 6 by decide]
  refine (p23 hM6 0 4 _).mono ?_
  rintro r H7 N7 ⟨rfl, hM7, _, rfl⟩
  replace hM7 : IsMem H7 m hid cid rids [[7, 5]] 1 [(0, 3)] := hM7
  simp [show giveErr 1 [(0, 3)] 0 4 = 69 by decide]
  refine (p22 hM7 1 3 _).mono ?_
  rintro r H8 N8 ⟨rfl, hM8, _, rfl⟩
  replace hM8 : IsMem H8 m hid cid rids [[7, 5]] 1 [(0, 3)] := hM8
  simp [show takeErr 1 [(0, 3)] 1 = 1 by decide]
  refine (p23 hM8 (-1) 3 _).mono ?_
  rintro r H9 N9 ⟨rfl, hM9, _, rfl⟩
  replace hM9 : IsMem H9 m hid cid rids [[7, 5]] 1 [(0, 3)] := hM9
  simp [show giveErr 1 [(0, 3)] (-1) 3 = 1 by decide]
  refine (p23 hM9 0 3 _).mono ?_
  rintro r H10 N10 ⟨rfl, hM10, _, rfl⟩
  replace hM10 : IsMem H10 m hid cid rids [[7, 5]] 1 [] := hM10
  simp [show giveErr 1 [(0, 3)] 0 3 = 0 by decide]
  refine (p23 hM10 0 3 _).mono ?_
  rintro r H11 N11 ⟨rfl, hM11, _, rfl⟩
  simp [show giveErr 1 [] 0 3 = 69 by decide]
  refine (p13 10 (-9223372036854775808) (-1)).acall ?_
  simp [show binR 10 (-9223372036854775808) (-1) = some (-9223372036854775808) by decide, ans]
  refine (p13 11 (-9223372036854775808) (-1)).acall ?_
  simp [show binR 11 (-9223372036854775808) (-1) = some 0 by decide, ans]
  refine (p13 5 1 1).acall ?_
  simp [show binR 5 1 1 = none by decide, ans]
  refine (p11 7 1).acall ?_
  simp [show unR 7 1 = none by decide, ans]
  refine (n_Set 0 0 0).acall ?_
  simp
  refine (n_Take 0 0).acall ?_
  simp
  refine (n_Give 0 0).acall ?_
  simp
  refine n_Cells.acall ?_
  simp
  refine n_Copy.acall ?_
  simp
  refine n_Same.acall ?_
  simp
  refine (n_Same1 m _ _).mono ?_
  rintro r H12 N12 ⟨rfl, rfl, rfl⟩
  simp
  refine (n_Same2 m _ _).mono ?_
  rintro r H13 N13 ⟨rfl, rfl, rfl⟩
  simp
  refine p15.acall ?_
  simp

theorem names_contract (al : List AV) (hl : al.length = Try.f10.params.size) (h : ∀ (i : Nat) (t : TypeId) (a : AV), Try.f10.params[i]? = some t → al[i]? = some a → Arg Try.prog t a) :
    ACall Try.prog 10 al noHeap 0 (fun r _ _ => r = .lit (.bool true)) := by
  rw [Try.params10] at hl h
  match al, hl with
  | [], _ => exact p_MemNames
end Go.Proofs.Ytmgmgeijfkcglaa
