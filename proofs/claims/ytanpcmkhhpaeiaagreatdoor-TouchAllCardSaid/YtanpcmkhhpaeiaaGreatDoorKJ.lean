/- The code of functions, compiled (printed by wip/tools/kp.py). -/
import Derived.Test.YtanpcmkhhpaeiaaGreatDoorProg
import Derived.Test.YtanpcmkhhpaeiaaGreatDoorM3
namespace Go.Proofs.YtanpcmkhhpaeiaaGreatDoor
set_option linter.unusedSimpArgs false
set_option linter.unusedVariables false
open Go Go.Fw
/-- bobbin/bobbinlaw18.TouchJoin -/
def a_bobbinlaw18_TouchJoinb1 : ACode :=
       .seq (
        .ops [⟨some 19, .bin .lss .num (.tmp 18) (.tmp 17), none⟩]) (
       .seq (
        .cond (.tmp 19) (
          .skip) (
          .exit 0)) (
       .seq (
        .block 1 (
          .seq (
           .ops [⟨some 20, .indexAddr 5 (.tmp 16) (.tmp 18), none⟩,
             ⟨some 21, .load true 5 (.tmp 20), none⟩,
             ⟨some 8, .alloc [(.sl .nil 0 []), (.sl .nil 0 []), (.sl .nil 0 []), (.sl .nil 0 []), (.sl .nil 0 [])], none⟩,
             ⟨none, .store 5 (.tmp 8) (.tmp 21), none⟩]) (
          .seq (
           .ops [⟨some 22, .fieldAddr 0 (.tmp 8), none⟩,
             ⟨some 23, .load false 1 (.tmp 22), none⟩,
             ⟨some 24, .len 1 (.tmp 23), none⟩,
             ⟨some 25, .fieldAddr 1 (.tmp 8), none⟩,
             ⟨some 26, .load false 1 (.tmp 25), none⟩,
             ⟨some 27, .len 1 (.tmp 26), none⟩,
             ⟨some 28, .bin .add .num (.tmp 24) (.tmp 27), none⟩,
             ⟨some 29, .fieldAddr 2 (.tmp 8), none⟩,
             ⟨some 30, .load false 1 (.tmp 29), none⟩,
             ⟨some 31, .len 1 (.tmp 30), none⟩,
             ⟨some 32, .bin .add .num (.tmp 28) (.tmp 31), none⟩,
             ⟨some 33, .fieldAddr 3 (.tmp 8), none⟩,
             ⟨some 34, .load false 1 (.tmp 33), none⟩,
             ⟨some 35, .len 1 (.tmp 34), none⟩,
             ⟨some 36, .bin .add .num (.tmp 32) (.tmp 35), none⟩,
             ⟨some 37, .fieldAddr 4 (.tmp 8), none⟩,
             ⟨some 38, .load false 1 (.tmp 37), none⟩,
             ⟨some 39, .len 1 (.tmp 38), none⟩,
             ⟨some 40, .bin .add .num (.tmp 36) (.tmp 39), none⟩,
             ⟨some 41, .bin .gtr .num (.tmp 40) (.val (.lit (.int .i64 500))), none⟩]) (
          .cond (.tmp 41) (
            .seq (
             .ops [⟨some 42, .call (.val (.fn (.func 11) [] [])) [], none⟩,
               ⟨some 6, .val (.tmp 42), none⟩]) (
            .ret)) (
            .skip))))) (
       .ops [⟨some 43, .bin .add .num (.tmp 18) (.val (.lit (.int .i64 1))), none⟩,
         ⟨some 18, .val (.tmp 43), none⟩])))

def a_tj_d1 : ACode :=
   .seq (
    .ops [⟨some 44, .iload true 5 (.tmp 3), none⟩,
      ⟨some 45, .iload true 5 (.tmp 4), none⟩,
      ⟨some 47, .iload true 5 (.tmp 4), none⟩,
      ⟨some 48, .iload true 5 (.tmp 3), none⟩]) (
   .seq (
    .draw [(2, ⟨some 46, .kcall (.val (.fn (.func 21) [] [])) [(.tmp 44), (.tmp 45)], none⟩, []),
      (5, ⟨some 49, .kcall (.val (.fn (.func 21) [] [])) [(.tmp 47), (.tmp 48)], none⟩, [2]),
      (6, ⟨some 9, .alloc [(.sl .nil 0 []), (.sl .nil 0 []), (.sl .nil 0 []), (.sl .nil 0 []), (.sl .nil 0 [])], none⟩, []),
      (7, ⟨some 10, .alloc [(.sl .nil 0 []), (.sl .nil 0 []), (.sl .nil 0 []), (.sl .nil 0 []), (.sl .nil 0 [])], none⟩, [])]) (
   .ops [⟨none, .store 5 (.tmp 9) (.tmp 46), none⟩,
     ⟨none, .store 5 (.tmp 10) (.tmp 49), none⟩]))

def a_tj_d2 : ACode :=
   .seq (
    .ops [⟨some 50, .iload true 5 (.tmp 3), none⟩,
      ⟨some 51, .iload true 5 (.tmp 4), none⟩,
      ⟨some 53, .iload true 5 (.tmp 5), none⟩,
      ⟨some 55, .iload true 5 (.tmp 3), none⟩,
      ⟨some 56, .iload true 5 (.tmp 4), none⟩,
      ⟨some 57, .iload true 5 (.tmp 5), none⟩]) (
   .seq (
    .draw [(2, ⟨some 52, .kcall (.val (.fn (.func 21) [] [])) [(.tmp 50), (.tmp 51)], none⟩, []),
      (4, ⟨some 54, .kcall (.val (.fn (.func 21) [] [])) [(.tmp 52), (.tmp 53)], none⟩, [2, 2]),
      (8, ⟨some 58, .kcall (.val (.fn (.func 21) [] [])) [(.tmp 56), (.tmp 57)], none⟩, [4]),
      (9, ⟨some 59, .kcall (.val (.fn (.func 21) [] [])) [(.tmp 55), (.tmp 58)], none⟩, [8, 8]),
      (10, ⟨some 11, .alloc [(.sl .nil 0 []), (.sl .nil 0 []), (.sl .nil 0 []), (.sl .nil 0 []), (.sl .nil 0 [])], none⟩, []),
      (11, ⟨some 12, .alloc [(.sl .nil 0 []), (.sl .nil 0 []), (.sl .nil 0 []), (.sl .nil 0 []), (.sl .nil 0 [])], none⟩, [])]) (
   .ops [⟨none, .store 5 (.tmp 11) (.tmp 54), none⟩,
     ⟨none, .store 5 (.tmp 12) (.tmp 59), none⟩]))

def o_tjs0 : List AOper :=
     [⟨some 60, .load true 5 (.tmp 9), none⟩,
      ⟨some 62, .load true 5 (.tmp 10), none⟩,
      ⟨some 61, .kcall (.val (.fn (.func 24) [] [])) [(.tmp 60)], none⟩,
      ⟨some 63, .kcall (.val (.fn (.func 24) [] [])) [(.tmp 62)], none⟩,
      ⟨some 64, .kcall (.val (.fn (.func 17) [] [])) [(.tmp 61), (.tmp 63)], none⟩,
      ⟨some 65, .un .not (.tmp 64), none⟩,
      ⟨some 66, .val (.tmp 65), none⟩]

def o_tjs1 : List AOper :=
     [⟨some 67, .load true 5 (.tmp 11), some (66, false)⟩,
      ⟨some 69, .load true 5 (.tmp 12), some (66, false)⟩,
      ⟨some 68, .kcall (.val (.fn (.func 24) [] [])) [(.tmp 67)], some (66, false)⟩,
      ⟨some 70, .kcall (.val (.fn (.func 24) [] [])) [(.tmp 69)], some (66, false)⟩,
      ⟨some 71, .kcall (.val (.fn (.func 17) [] [])) [(.tmp 68), (.tmp 70)], some (66, false)⟩,
      ⟨some 72, .un .not (.tmp 71), some (66, false)⟩,
      ⟨some 73, .pick (.tmp 66) (.val (.lit (.bool true))) (.tmp 72), none⟩,
      ⟨some 74, .val (.tmp 73), none⟩]

def o_tjs2 : List AOper :=
     [⟨some 75, .load true 5 (.tmp 9), some (74, false)⟩,
      ⟨some 76, .load true 5 (.tmp 9), some (74, false)⟩,
      ⟨some 79, .load true 5 (.tmp 9), some (74, false)⟩,
      ⟨some 77, .kcall (.val (.fn (.func 21) [] [])) [(.tmp 75), (.tmp 76)], some (74, false)⟩,
      ⟨some 78, .kcall (.val (.fn (.func 24) [] [])) [(.tmp 77)], some (74, false)⟩,
      ⟨some 80, .kcall (.val (.fn (.func 24) [] [])) [(.tmp 79)], some (74, false)⟩,
      ⟨some 81, .kcall (.val (.fn (.func 17) [] [])) [(.tmp 78), (.tmp 80)], some (74, false)⟩,
      ⟨some 82, .un .not (.tmp 81), some (74, false)⟩,
      ⟨some 83, .pick (.tmp 74) (.val (.lit (.bool true))) (.tmp 82), none⟩,
      ⟨some 84, .val (.tmp 83), none⟩]

def o_tjs3 : List AOper :=
     [⟨some 85, .kcall (.val (.fn (.func 11) [] [])) [], some (84, false)⟩,
      ⟨some 86, .un .not (.tmp 85), some (84, false)⟩,
      ⟨some 87, .pick (.tmp 84) (.val (.lit (.bool true))) (.tmp 86), none⟩]

def a_tj_s : ACode :=
   .seq (
    .ops (o_tjs0 ++ (o_tjs1 ++ (o_tjs2 ++ o_tjs3)))) (
   .cond (.tmp 87) (
     .seq (
      .ops [⟨some 6, .val (.val (.lit (.bool false))), none⟩]) (
     .ret)) (
     .skip))

def o_tjw0 : List AOper :=
     [⟨some 88, .fieldAddr 0 (.tmp 3), none⟩,
     ⟨some 89, .iload false 1 (.tmp 88), none⟩,
     ⟨some 90, .fieldAddr 0 (.tmp 9), none⟩,
     ⟨some 91, .load false 1 (.tmp 90), none⟩,
     ⟨some 92, .call (.val (.fn (.func 25) [] [])) [(.tmp 89), (.tmp 91)], none⟩,
     ⟨some 93, .val (.tmp 92), none⟩]

def o_tjw1 : List AOper :=
     [⟨some 94, .fieldAddr 1 (.tmp 4), some (93, true)⟩,
     ⟨some 95, .iload false 1 (.tmp 94), some (93, true)⟩,
     ⟨some 96, .fieldAddr 1 (.tmp 9), some (93, true)⟩,
     ⟨some 97, .load false 1 (.tmp 96), some (93, true)⟩,
     ⟨some 98, .call (.val (.fn (.func 25) [] [])) [(.tmp 95), (.tmp 97)], some (93, true)⟩,
     ⟨some 99, .pick (.tmp 93) (.tmp 98) (.val (.lit (.bool false))), none⟩,
     ⟨some 100, .val (.tmp 99), none⟩]

def o_tjw2 : List AOper :=
     [⟨some 101, .fieldAddr 2 (.tmp 3), some (100, true)⟩,
     ⟨some 102, .iload false 1 (.tmp 101), some (100, true)⟩,
     ⟨some 103, .fieldAddr 2 (.tmp 9), some (100, true)⟩,
     ⟨some 104, .load false 1 (.tmp 103), some (100, true)⟩,
     ⟨some 105, .call (.val (.fn (.func 25) [] [])) [(.tmp 102), (.tmp 104)], some (100, true)⟩,
     ⟨some 106, .pick (.tmp 100) (.tmp 105) (.val (.lit (.bool false))), none⟩,
     ⟨some 107, .val (.tmp 106), none⟩]

def o_tjw3 : List AOper :=
     [⟨some 108, .fieldAddr 3 (.tmp 4), some (107, true)⟩,
     ⟨some 109, .iload false 1 (.tmp 108), some (107, true)⟩,
     ⟨some 110, .fieldAddr 3 (.tmp 9), some (107, true)⟩,
     ⟨some 111, .load false 1 (.tmp 110), some (107, true)⟩,
     ⟨some 112, .call (.val (.fn (.func 25) [] [])) [(.tmp 109), (.tmp 111)], some (107, true)⟩,
     ⟨some 113, .pick (.tmp 107) (.tmp 112) (.val (.lit (.bool false))), none⟩,
     ⟨some 114, .val (.tmp 113), none⟩]

def o_tjw4 : List AOper :=
     [⟨some 115, .fieldAddr 4 (.tmp 3), some (114, true)⟩,
     ⟨some 116, .iload false 1 (.tmp 115), some (114, true)⟩,
     ⟨some 117, .fieldAddr 4 (.tmp 9), some (114, true)⟩,
     ⟨some 118, .load false 1 (.tmp 117), some (114, true)⟩,
     ⟨some 119, .call (.val (.fn (.func 25) [] [])) [(.tmp 116), (.tmp 118)], some (114, true)⟩,
     ⟨some 120, .pick (.tmp 114) (.tmp 119) (.val (.lit (.bool false))), none⟩,
     ⟨some 6, .val (.tmp 120), none⟩]

def a_tj_w : ACode :=
  .seq (
   .ops (o_tjw0 ++ (o_tjw1 ++ (o_tjw2 ++ (o_tjw3 ++ o_tjw4))))) (
  .ret)

def a_bobbinlaw18_TouchJoin : ACode :=
  .seq (
   .ops [⟨some 3, .box true (.tmp 0), none⟩,
     ⟨some 4, .box true (.tmp 1), none⟩,
     ⟨some 5, .box true (.tmp 2), none⟩,
     ⟨some 6, .val (.val (.lit (.bool false))), none⟩]) (
  .seq (
   .seq (
    .ops [⟨some 13, .iload true 5 (.tmp 3), none⟩,
      ⟨some 14, .iload true 5 (.tmp 4), none⟩,
      ⟨some 15, .iload true 5 (.tmp 5), none⟩,
      ⟨some 16, .bslice false 5 3 [(.sl .nil 0 []), (.sl .nil 0 []), (.sl .nil 0 []), (.sl .nil 0 []), (.sl .nil 0 []), (.sl .nil 0 []), (.sl .nil 0 []), (.sl .nil 0 []), (.sl .nil 0 []), (.sl .nil 0 []), (.sl .nil 0 []), (.sl .nil 0 []), (.sl .nil 0 []), (.sl .nil 0 []), (.sl .nil 0 [])] [(0, 5, (.tmp 13)), (5, 5, (.tmp 14)), (10, 5, (.tmp 15))], none⟩,
      ⟨some 17, .len 1 (.tmp 16), none⟩,
      ⟨some 18, .val (.val (.lit (.int .i64 0))), none⟩]) (
   .block 0 (
     .loop a_bobbinlaw18_TouchJoinb1))) (
  .seq a_tj_d1 (
  .seq a_tj_d2 (
  .seq a_tj_s a_tj_w))))

theorem c_bobbinlaw18_TouchJoin : codeOf Tryz.prog { kc := [46, 49, 52, 54, 58, 59, 61, 63, 64, 68, 70, 71, 77, 78, 80, 81, 85], bz := [3, 4, 5], il := [13, 14, 15, 44, 45, 47, 48, 50, 51, 53, 55, 56, 57, 89, 95, 102, 109, 116] } 7 = some (a_bobbinlaw18_TouchJoin, [.tmp 6], 121) := by kernel_rfl

end Go.Proofs.YtanpcmkhhpaeiaaGreatDoor
